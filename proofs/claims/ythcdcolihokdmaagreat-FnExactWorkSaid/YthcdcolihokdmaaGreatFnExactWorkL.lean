/- The law FnExactWork: part of the proof that for every input it returns true. No condition. -/
import Derived.Test.YthcdcolihokdmaaGreatFnExactWorkB
set_option linter.unusedVariables false
set_option linter.unusedSimpArgs false
namespace Go.V.W
theorem QN {j:ur} (h:Cs.wf vU j):xa j.2.1:=by
 simp only[vU,Cs.wf,CT.wf]at h;obtain⟨_,h1,_⟩:=h;intro x hx;have:=h1.2 x hx
 have h2:0<=x/\x<=255:=this;exact h2
theorem Oi {a:ue} (h:Cs.wf uN a):∀j∈tS a,xa j.2.1:=by
 simp only[uN,Cs.wf,CT.wf]at h;obtain⟨_,h1,h2,h3,h4,h5,_,_,_,_,_,h6,h7,_⟩:=h;intro j hj;apply QN;have:=h7.2 j hj
 simpa only[vU,Cs.wf,CT.wf]using this
theorem Bi {n:Nat} (h:n<=M):n<=1100000:=Nat.le_trans h (by decide)
theorem Oj {a:ue} (h:Bh M a):Lm a:=by
 obtain⟨⟨_,h2,h3,h4,h5⟩,_,h6,h7⟩:=h;refine⟨Bi h2,Bi h3,Bi h4,Bi h5,Bi h6,λj hj=>?_⟩;obtain⟨j1,⟨j2,j3⟩,_,j5,j6,j7,j8⟩:=h7 j hj;exact⟨Bi j1,⟨Bi j2,λx hx=>⟨Bi (j3 x hx).1,Bi (j3 x hx).2.2⟩⟩,Bi j5,Bi j6,Bi j7,Bi j8⟩
theorem Sk {d:vB} (h:wu M d.2):dW d d=some true:=by
 have h2:=Px (p:=d.2) h;unfold dW;simp[h2]
theorem QO {l:List vB} (hn:l.length<=M) (h:∀d∈l,wu M d.2):dX l l=some true:=zY (AU (g:=dW) (λx hx=>Sk (h x hx)) (xK hn))
theorem Sl {l:List vB} (h:∀d∈l,wu M d.2):∀x∈l,Lo x:=λx hx=>⟨Bi (h x hx).1,λy hy=>⟨Bi ((h x hx).2 y hy).1,Bi ((h x hx).2 y hy).2.2⟩⟩
theorem fnExactWork_pure (a:ue) (k:Int) (h:Cs.wf uN a):z7 a k=some true:=by
 unfold z7;obtain⟨r,h1,h2⟩:=Qg (a:=a) (left:=1048576) ⟨by omega,by omega⟩ (P8 h);rw[h1,Option.bind_some];rcases h2 with rfl|⟨k1,k2,k3⟩
 · rfl
 rw[ui (show ¬r<0 by omega),cF];obtain⟨v,a1,a2,a3,a4,a5⟩:=Qb (a:=a) ⟨Oe h k3,k3,Oi h⟩ k;obtain⟨x1,q1,e1,b1,c1,_⟩:=Ln (x:=a) (Oj k3) (k:=1) (by omega) (by omega);obtain⟨x2,q2,e2,b2,c2,f2⟩:=Ln (x:=v.1) (Oj a3) (k:=1) (by omega) (by omega);obtain⟨x3,q3,e3,_,b3,c3,f3⟩:=Q1 (l:=v.2) (Bi a4) (Sl a5) (k:=q2) (by omega) (by omega);simp only[Ql k3,a1,a2,LC a3,LC k3,QO a4 a5,e1,e2,e3,f2,f3,Option.bind_some,Bool.not_true,cF,ui (show ¬q1<0 by omega),ui (show ¬q2<0 by omega),ui (show ¬q3<0 by omega),bne_self_eq_false]
end Go.V.W

