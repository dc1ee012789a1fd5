/- The law FnExactWalk: part of the proof that for every input it returns true. No condition. -/
import Derived.Test.YtpidgkkbmlgehaaFnExactWalkB
set_option linter.unusedVariables false
set_option linter.unusedSimpArgs false
namespace Go.V.W
theorem AD {α β:Type} (l:List α) (i:Int) (f:α->Option β):((ix l.length i).bind λj=>(l[j]?).bind f)=(at? l i).bind f:=by
 unfold ix at?;by_cases h0:0<=i
 · rw[if_pos h0,if_pos h0];by_cases h1:i<(l.length:Int)
   · rw[if_pos h1,Option.bind_some]
   · rw[if_neg h1,List.getElem?_eq_none (by omega)];rfl
 · rw[if_neg h0,if_neg h0];rfl
theorem A1:ck=aY:=rfl
theorem vj {α β γ:Type} {f:α->Option (α⊕β)} {g:α->Option (α⊕γ)} (h:γ->β) (hfg:∀x,f x=(g x).map (Sum.map id h)) (k:Nat):∀x,iU f k x=(iU g k x).map h:=by
 induction k with
 | zero=>intro x;rfl
 | succ k ih =>
  intro x;rw[iA,iA,hfg x];cases g x with
  | none=>rfl
  | some v=>cases v with
   | inl y=>exact ih y
   | inr c=>rfl
theorem yy {α β γ:Type} {f:α->Option (α⊕β)} {g:α->Option (α⊕γ)} (h:γ->β) (hfg:∀x,f x=(g x).map (Sum.map id h)) (x:α):loop f x=(loop g x).map h:=by
 by_cases hc:∃k,(iU g k x).isSome
 · obtain⟨k,hk⟩:=hc;cases hv:iU g k x with
   | none=>rw[hv]at hk;cases hk
   | some c =>
    have:iU f k x=some (h c):=by rw[vj h hfg,hv];rfl
    rw[jV hv,jV this];rfl
 · have hc':¬ ∃k,(iU f k x).isSome:=by
    rintro⟨k,hk⟩;apply hc;refine⟨k,?_⟩;rw[vj h hfg]at hk;cases hv:iU g k x with
    | none=>rw[hv]at hk;cases hk
    | some c=>rfl
   unfold loop;rw[dif_neg hc,dif_neg hc'];rfl
theorem AE {b:gC} (h:ni b) (o:List Int):bv b o=aj b o:=by
 unfold bv aj;rw[yt h];cases ax b with
 | none=>rfl
 | some l =>
  have hs:(λz:Int×Int×Int×List UInt8×List Int×List Int=>cl o l z.1 z.2.1 z.2.2.1 z.2.2.2.1 z.2.2.2.2.1 z.2.2.2.2.2)=λz=>ai o l z.1 z.2.1 z.2.2.1 z.2.2.2.1 z.2.2.2.2.1 z.2.2.2.2.2:=by
   funext z
   unfold cl ai;simp only[AD,A1];cases at? l z.1<;>rfl
  rw[Option.bind_some,Option.bind_some,hs];unfold aK;simp only[Option.bind_assoc,Option.bind_some]
theorem yP {b:gC} (h:ni b) (o:List Int) (n:Int):aF b o n=ak b o n:=by
 unfold aF ak;rw[vd,Option.bind_some];cases hin:i9 n 0 200 with
 | false =>
  have:iU (λz:List Int×List gG=>aa b n z.1 z.2) 1 (o,[])=some []:=by
   rw[iA];have hs:aa b n o []=some (.inr []):=by
    unfold aa;rw[nr,Option.bind_some,hin];rfl
   show (aa b n o []).bind _=_;rw[hs];rfl
  rw[jV this];rfl
 | true =>
  rw[Bool.not_true,cF,yy (f:=λz:List Int×List gG=>aa b n z.1 z.2) (g:=λz:List Int×List gG=>bw b n z.1 z.2) (Sum.elim id id) (λz=>by
   unfold aa bw;rw[nr,Option.bind_some,hin,cT,Option.bind_some,AE h];cases decide ((z.2.length:Int)<n)with
   | false=>rfl
   | true =>
    rw[cT,cT];cases aj b z.1 with
    | none=>rfl
    | some x =>
     rw[Option.bind_some,Option.bind_some];cases x.2.1==130 with
     | true=>rfl
     | false =>
      rw[cF,cF];cases lm z.2 [x]<;>rfl)]
  cases loop (λz:List Int×List gG=>bw b n z.1 z.2) (o,[])with
  | none=>rfl
  | some v=>cases v<;>rfl
theorem B4 {b:gC} (h:ni b) (hp:kV b=false):ax b=some []:=by rw[yr h,hp];rfl
theorem AF {b:gC} (h:ni b) {o:List Int} (ho:o.length<=1048576) (n:Int):∃l,ak b o n=some l/\l.length<=1000/\∀x∈l,Nm x.1/\Vl x.2:=by
 cases hin:i9 n 0 200 with
 | false =>
  refine⟨[],?_,by simp,λx hx=>absurd hx List.not_mem_nil⟩;rw[←yP h];unfold aF;rw[vd,hin];rfl
 | true =>
  have hi:=pu hin;obtain⟨k,rfl⟩:∃k:Nat,n=(k:Int):=⟨n.toNat,by omega⟩;cases hp:kV b with
  | true =>
   have hb:=Bd h hp;have hle:=vi hb
   obtain⟨j,hj⟩:=AC (vh hb) o;refine⟨_,A0 hb ho hj (by omega),?_,λx hx=>q7 hb x (List.mem_of_mem_drop (List.mem_of_mem_take hx))⟩;rw[List.length_take,List.length_drop];omega
  | false =>
   refine⟨[],?_,by simp,λx hx=>absurd hx List.not_mem_nil⟩;have hnext:aj b o=some (o,130,0,[],[]):=by
    unfold aj aK;have:iU (λz:Int×Int×Int×List UInt8×List Int×List Int=>ai o [] z.1 z.2.1 z.2.2.1 z.2.2.2.1 z.2.2.2.2.1 z.2.2.2.2.2) 1 (0,0,0,[],[],[])=some (.inl (0,0,[],[],[])):=rfl
    rw[B4 h hp,Option.bind_some,jV this,Option.bind_some];show (((lm [] o).bind λzs=>some zs).bind λt=>some (t,130,0,[],[]))=_
    rw[nj (by show 0+o.length<=_;omega)];rfl
   have:iU (λz:List Int×List gG=>aa b (k:Int) z.1 z.2) 1 (o,[])=some []:=by
    rw[iA];have hs:aa b (k:Int) o []=some (.inr []):=by
     unfold aa;rw[nr,Option.bind_some,hin,cT,hnext];cases decide ((([]:List gG).length:Int)<(k:Int))<;>rfl
    show (aa b (k:Int) o []).bind _=_;rw[hs];rfl
   unfold ak;rw[jV this];rfl
theorem u7 {n:Nat} (h:n<=M):n<=1100000:=Nat.le_trans h (by decide)
theorem A2 {b:gC} (h:vc M b):vb b:=by
 obtain⟨_,h2,h3,h4,h5⟩:=h;exact⟨u7 h2,u7 h3,u7 h4,u7 h5⟩
theorem AG {v:qN} (h:Vl v):zM M v:=by
 cases h with
 | num h=>exact⟨by show 0<=1048576;decide,by show 0<=1048576;decide⟩
 | @word s h=>exact⟨by show s.length<=1048576;omega,by show 0<=1048576;decide⟩
theorem xO {b:gC} (h:Cs.wf il b):vc maxLen b:=by
 simp only[il,Cs.wf,CT.wf]at h;obtain⟨_,h1,h2,h3,h4,h5,_⟩:=h;exact⟨h1,h2.1,h3.1,h4.1,h5.1⟩
theorem wV {b:gC} (h:Cs.wf il b) (hl:vc M b):ni b:=by
 obtain⟨_,l2,l3,l4,l5⟩:=hl;have hM:M<9223372036854775807:=by decide
 refine⟨by omega,by omega,by omega,by omega,λr hr=>?_⟩;simp only[il,Cs.wf,CT.wf]at h;obtain⟨_,_,_,_,h4,_⟩:=h;have:=(h4.2 r hr).2.2
 exact this
theorem fnExactWalk_pure (b:gC) (o:List Int) (n:Int) (h:Cs.wf il b) (hx:Cs.wf (.one (.sl (.one (.int .i64)))) o):ld b o n=some true:=by
 unfold ld;by_cases hd:(o.length:Int)>1048576
 · rw[dT hd];rfl
 rw[dF hd,cF];obtain⟨r,h1,h2⟩:=ym (b:=b) (left:=1048576) ⟨by omega,by omega⟩ (xO h);rw[h1,Option.bind_some];rcases h2 with rfl|⟨k1,k2,k3⟩
 · rfl
 rw[jD (show ¬r<0 by omega),cF];have hb:=wV h k3
 have hoM:o.length<=M:=by show o.length<=1048576;omega
 obtain⟨w,a1,a2,a3⟩:=AF hb (o:=o) (by omega) n;have a0:aF b o n=some w:=by rw[yP hb];exact a1
 have a4:zN M w:=⟨by show _<=1048576;omega,λx hx=>⟨by have:=(a3 x hx).1.n10;show _<=1048576;omega,AG (a3 x hx).2⟩⟩;obtain⟨x1,q1,e1,b1,c1,_⟩:=yl (x:=b) (A2 k3) (k:=1) (by omega) (by omega);obtain⟨x2,q2,e2,b0,b2,c2,_⟩:=sT (l:=o) (u7 hoM) (k:=q1) (by omega) (by omega);obtain⟨x3,q3,e3,_,b3,c3,f3⟩:=zb (l:=w) (u7 a4.1) (λx hx=>⟨u7 (a4.2 x hx).1,u7 (a4.2 x hx).2.2⟩) (k:=1) (by omega) (by omega);simp only[yn k3,xD hoM,a0,a1,zi a4,yo k3,sU hoM,e1,e2,e3,f3,Option.bind_some,Bool.not_true,cF,jD (show ¬q2<0 by omega),jD (show ¬q3<0 by omega),bne_self_eq_false]
end Go.V.W

