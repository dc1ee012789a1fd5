/- The law FnExactWorkAll: part of the proof that for every input it returns true. No condition. -/
import Derived.Test.YthcdcolihokdmaaGreatFnExactWorkAllB
set_option linter.unusedVariables false
set_option linter.unusedSimpArgs false
namespace Go.V.W
theorem QT {j:ut} (h:Cs.wf vJ j):xi j.2.1:=by
 simp only[vJ,Cs.wf,CT.wf]at h;obtain⟨_,h1,_⟩:=h;intro x hx;have:=h1.2 x hx
 have h2:0<=x/\x<=255:=this;exact h2
theorem Om {a:ue} (h:Cs.wf uP a):∀j∈tU a,xi j.2.1:=by
 simp only[uP,Cs.wf,CT.wf]at h;obtain⟨_,h1,h2,h3,h4,h5,_,_,_,_,_,h6,h7,_⟩:=h;intro j hj;apply QT;have:=h7.2 j hj
 simpa only[vJ,Cs.wf,CT.wf]using this
theorem Bn {n:Nat} (h:n<=M):n<=1100000:=Nat.le_trans h (by decide)
theorem On {a:ue} (h:Bu M a):Lv a:=by
 obtain⟨⟨_,h2,h3,h4,h5⟩,_,h6,h7⟩:=h;refine⟨Bn h2,Bn h3,Bn h4,Bn h5,Bn h6,λj hj=>?_⟩;obtain⟨j1,⟨j2,j3⟩,_,j5,j6,j7,j8⟩:=h7 j hj;exact⟨Bn j1,⟨Bn j2,λx hx=>⟨Bn (j3 x hx).1,Bn (j3 x hx).2.2⟩⟩,Bn j5,Bn j6,Bn j7,Bn j8⟩
theorem Sv {d:uY} (h:wo M d.2):dw d d=some true:=by
 have h2:=PD (p:=d.2) h;unfold dw;simp[h2]
theorem QU {l:List uY} (hn:l.length<=M) (h:∀d∈l,wo M d.2):dx l l=some true:=zZ (B0 (g:=dw) (λx hx=>Sv (h x hx)) (xO hn))
theorem Sw {l:List uY} (h:∀d∈l,wo M d.2):∀x∈l,Lx x:=λx hx=>⟨Bn (h x hx).1,λy hy=>⟨Bn ((h x hx).2 y hy).1,Bn ((h x hx).2 y hy).2.2⟩⟩
theorem fnExactWorkAll_pure (a:ue) (k:Int) (h:Cs.wf uP a):yl a k=some true:=by
 unfold yl;obtain⟨r,h1,h2⟩:=Qm (a:=a) (left:=1048576) ⟨by omega,by omega⟩ (Pe h);rw[h1,Option.bind_some];rcases h2 with rfl|⟨k1,k2,k3⟩
 · rfl
 rw[uj (show ¬r<0 by omega),cF];obtain⟨v,a1,a2,a3,a4,a5⟩:=RK (a:=a) ⟨Oi h k3,k3,Om h⟩ k;obtain⟨x1,q1,e1,b1,c1,_⟩:=Lw (x:=a) (On k3) (k:=1) (by omega) (by omega);obtain⟨x2,q2,e2,b2,c2,f2⟩:=Lw (x:=v.1) (On a3) (k:=1) (by omega) (by omega);obtain⟨x3,q3,e3,_,b3,c3,f3⟩:=Q7 (l:=v.2) (Bn a4) (Sw a5) (k:=q2) (by omega) (by omega);simp only[Qr k3,a1,a2,LI a3,LI k3,QU a4 a5,e1,e2,e3,f2,f3,Option.bind_some,Bool.not_true,cF,uj (show ¬q1<0 by omega),uj (show ¬q2<0 by omega),uj (show ¬q3<0 by omega),bne_self_eq_false]
end Go.V.W

