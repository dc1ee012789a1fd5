/- The law FnExactVisits: part of the proof that for every input it returns true. No condition. -/
import Derived.Test.YtobeipmgjajdlaaGreatFnExactVisitsB
set_option linter.unusedVariables false
set_option linter.unusedSimpArgs false
namespace Go.V.W
theorem yq {n:Nat} (h:n<=M):n<=1100000:=Nat.le_trans h (by decide)
theorem Gb {b:lS} (h:tO M b):wh b:=by
 obtain⟨_,h2,h3,h4,h5⟩:=h;exact⟨yq h2,yq h3,yq h4,yq h5⟩
theorem fnExactVisits_pure (n:mi) (b p:Int) (f:mO) (h:Cs.wf np n) (hf:Cs.wf mZ f):pp n b p f=some true:=by
 unfold pp;obtain⟨r,h1,h2⟩:=GL (n:=n) (left:=1048576) ⟨by omega,by omega⟩ (FP h);rw[h1,Option.bind_some];rcases h2 with rfl|⟨k1,k2,k3⟩
 · rfl
 rw[mG (show ¬r<0 by omega),cF];have hfl:f.2.2.2.length<=maxLen:=by
  simp only[mZ,Cs.wf,CT.wf]at hf;exact hf.2.2.2.1
 obtain⟨s,h3,h4⟩:=EX (f:=f) (left:=r) ⟨by omega,by omega⟩ hfl;rw[h3,Option.bind_some];rcases h4 with rfl|⟨k4,k5,k6⟩
 · rfl
 rw[mG (show ¬s<0 by omega),cF];have hn:=GP k3
 have hw:∀b∈n.1,uC b:=λb hb=>by
  have h':=h;simp only[np,Cs.wf,CT.wf]at h';exact C8 (h'.1.2 b hb) (k3.1.2 b hb)
 obtain⟨g,a1,a2,a3⟩:=Ce ⟨hn,k3.1.1,hw,k3.2.2⟩ k3 b p f;have hmn:E3 n:=⟨⟨yq k3.1.1,λy hy=>Gb (k3.1.2 y hy)⟩,yq k3.2.1,yq k3.2.2⟩
 have hgl:g.length<=M:=by show _<=1048576;omega
 obtain⟨x1,q1,e1,b1,c1,_⟩:=Gw (x:=n) hmn (k:=1) (by omega) (by omega);obtain⟨x2,q2,e2,b2,c2,_⟩:=EE (x:=f) (yq k6) (k:=q1) (by omega) (by omega);obtain⟨x3,q3,e3,_,b3,c3,f3⟩:=CS (l:=g) (yq hgl) (k:=1) (by omega) (by omega);simp only[GM k3,EY k6,a1,a2,CV hgl,GO k3,EZ k6,e1,e2,e3,f3,Option.bind_some,Bool.not_true,cF,mG (show ¬q2<0 by omega),mG (show ¬q3<0 by omega),bne_self_eq_false]
end Go.V.W

