/- The law FnExactReplyOf: part of the proof that for every input it returns true. No condition. -/
import Derived.Test.YtpidgkkbmlgehaaGreatFnExactReplyOfB
set_option linter.unusedVariables false
set_option linter.unusedSimpArgs false
namespace Go.V.W
theorem Eb {n:Nat} (h:n<=M):n<=1100000:=Nat.le_trans h (by decide)
theorem Hw {b:oI} (h:u7 M b):DU b:=by
 obtain⟨_,h2,h3,h4,h5⟩:=h;exact⟨Eb h2,Eb h3,Eb h4,Eb h5⟩
theorem Hx {p:ph} (h:tB M p):Iq p:=⟨Eb h.1,λy hy=>⟨Eb (h.2 y hy).1,Eb (h.2 y hy).2.2⟩⟩
theorem KQ {p:ph} (h:Cs.wf qx p):tB maxLen p:=by
 simp only[qx,Cs.wf,CT.wf]at h;refine⟨h.2.2.2.2.1,λx hx=>?_⟩;have:=h.2.2.2.2.2 x hx
 exact⟨this.1.1,this.2.2.2.1,this.2.2.2.2.1⟩
theorem JF {b:oI} (h:uQ b) (hb:u7 M b) {p:ph} (hp:tB M p):u7 M (u5 b p).1/\tB M (u5 b p).2.1:=by
 have h0:tB M (0,0,0,0,[]):=⟨by show 0<=1048576;decide,λx hx=>by cases hx⟩;unfold u5;cases he:zS b p with
 | false=>exact⟨hb,h0⟩
 | true =>
  unfold zS at he;simp only[aT]at he;obtain⟨e1,e2,e3⟩:=he;have hdn:qy (vi b p).1:=by
   have:=G0 (Fc h e1) p;unfold u5 zS at this;rw[e1,e2,e3]at this;exact this
  exact⟨hdn.le,BP (J9 (Hc e2))⟩
theorem fnExactReplyOf_pure (b:oI) (p:ph) (h:Cs.wf p4 b) (hx:Cs.wf qx p):sn b p=some true:=by
 unfold sn;obtain⟨r,h1,h2⟩:=I5 (b:=b) (left:=1048576) ⟨by omega,by omega⟩ (Hs h);rw[h1,Option.bind_some];rcases h2 with rfl|⟨k1,k2,k3⟩
 · rfl
 rw[pk (show ¬r<0 by omega),cF];obtain⟨s,h3,h4⟩:=Lh (p:=p) (left:=r) ⟨by omega,by omega⟩ (KQ hx);rw[h3,Option.bind_some];rcases h4 with rfl|⟨k4,k5,k6⟩
 · rfl
 rw[pk (show ¬s<0 by omega),cF];have hb:=Gg h k3
 have a1:=Kd hb k3 k6;have a2:=Ki hb k3 k6
 obtain⟨a3,a4⟩:=JF hb k3 k6;generalize u5 b p=v at a1 a2 a3 a4;obtain⟨x1,q1,e1,b1,c1,_⟩:=DV (x:=b) (Hw k3) (k:=1) (by omega) (by omega);obtain⟨x2,q2,e2,b2,c2,_⟩:=Ir (x:=p) (Hx k6) (k:=q1) (by omega) (by omega);obtain⟨x3,q3,e3,b3,c3,f3⟩:=DV (x:=v.1) (Hw a3) (k:=1) (by omega) (by omega);obtain⟨x4,q4,e4,b4,c4,f4⟩:=Ir (x:=v.2.1) (Hx a4) (k:=q3) (by omega) (by omega);simp only[I6 k3,Lk k6,a1,a2,E4 a3,E4 k3,IA a4,IA k6,e1,e2,e3,e4,f3,f4,Option.bind_some,Bool.not_true,cF,pk (show ¬q2<0 by omega),pk (show ¬q3<0 by omega),pk (show ¬q4<0 by omega),bne_self_eq_false,beq_self_eq_true]
end Go.V.W

