/- The law FnExactDoAct: part of the proof that for every input it returns true. No condition. -/
import Derived.Test.YthcdcolihokdmaaGreatFnExactDoActB
set_option linter.unusedVariables false
set_option linter.unusedSimpArgs false
namespace Go.V.W
theorem V7 {j:xl} (h:Cs.wf yX j):zE j.2.1:=by
 simp only[yX,Cs.wf,CT.wf]at h;obtain⟨_,h1,_⟩:=h;intro x hx;have:=h1.2 x hx
 have h2:0<=x/\x<=255:=this;exact h2
theorem So {a:wW} (h:Cs.wf xv a):∀j∈wG a,zE j.2.1:=by
 simp only[xv,Cs.wf,CT.wf]at h;obtain⟨_,h1,h2,h3,h4,h5,_,_,_,_,_,h6,h7,_⟩:=h;intro j hj;apply V7;have:=h7.2 j hj
 simpa only[yX,Cs.wf,CT.wf]using this
theorem CI {n:Nat} (h:n<=M):n<=1100000:=Nat.le_trans h (by decide)
theorem Sp {a:wW} (h:Fy M a):Pg a:=by
 obtain⟨⟨_,h2,h3,h4,h5⟩,_,h6,h7⟩:=h;refine⟨CI h2,CI h3,CI h4,CI h5,CI h6,λj hj=>?_⟩;obtain⟨j1,⟨j2,j3⟩,_,j5,j6,j7,j8⟩:=h7 j hj;exact⟨CI j1,⟨CI j2,λx hx=>⟨CI (j3 x hx).1,CI (j3 x hx).2.2⟩⟩,CI j5,CI j6,CI j7,CI j8⟩
theorem WP {d:xZ} (h:zk M d.2):fC d d=some true:=by
 have h2:=TQ (p:=d.2) h;unfold fC;simp[h2]
theorem V8 {l:List xZ} (hn:l.length<=M) (h:∀d∈l,zk M d.2):fg l l=some true:=Cg (D7 (g:=fC) (λx hx=>WP (h x hx)) (Ap hn))
theorem WQ {l:List xZ} (h:∀d∈l,zk M d.2):∀x∈l,Pi x:=λx hx=>⟨CI (h x hx).1,λy hy=>⟨CI ((h x hx).2 y hy).1,CI ((h x hx).2 y hy).2.2⟩⟩
theorem XX {o:xm} (h:o.2.2.2.2.length<=M):eV o o=some true:=by
 have h2:=Pv (f:=o.2) h;unfold eV;simp[h2]
theorem WR {l:List xm} (hn:l.length<=M) (h:∀d∈l,d.2.2.2.2.length<=M):eW l l=some true:=Cg (D7 (g:=eV) (λx hx=>XX (h x hx)) (Ap hn))
theorem V9 {x:Act} (h:Cs.wf Ao x):zE x.2.2.2.1:=by
 simp only[Ao,Cs.wf,CT.wf]at h;intro y hy;have h2:0<=y/\y<=255:=h.2.2.2.1.2 y hy
 exact h2
theorem XY {n:Nat} {l:List xm} (h:OL n l) (hn:n<=1000):l.length<=M/\∀d∈l,d.2.2.2.2.length<=M:=⟨by have:=h.1;show _<=1048576;omega,λd hd=>by have:=h.2 d hd;show _<=1048576;omega⟩
theorem fnExactDoAct_pure (a:wW) (x:Act) (h:Cs.wf xv a) (hx:Cs.wf Ao x):Bx a x=some true:=by
 unfold Bx;obtain⟨r,h1,h2⟩:=UF (a:=a) (left:=1048576) ⟨by omega,by omega⟩ (Te h);rw[h1,Option.bind_some];rcases h2 with rfl|⟨k1,k2,k3⟩
 · rfl
 rw[x7 (show ¬r<0 by omega),cF];obtain⟨s,h3,h4⟩:=Xk (x:=x) (left:=r) ⟨by omega,by omega⟩ (W6 hx);rw[h3,Option.bind_some];rcases h4 with rfl|⟨k4,k5,k6⟩
 · rfl
 rw[x7 (show ¬s<0 by omega),cF];have ha:HD a:=⟨Sh h k3,k3,So h⟩
 have hM:QB x:=⟨V9 hx,k6.1⟩;obtain⟨a1,a3,a4,a5,a6⟩:=W7 ha hM;have a2:=UB ha hM
 generalize KW a x=v at a1 a2 a3 a4 a5 a6;have a3:=a3.2.1
 obtain⟨o1,o2⟩:=XY a4 (by omega);have a5:v.2.2.length<=M:=by show _<=1048576;omega
 obtain⟨x1,q1,e1,b1,c1,_⟩:=Ph (x:=a) (Sp k3) (k:=1) (by omega) (by omega);obtain⟨x2,q2,e2,b2,c2,_⟩:=X2 (x:=x) ⟨CI k6.1,CI k6.2⟩ (k:=q1) (by omega) (by omega);obtain⟨x3,q3,e3,b3,c3,f3⟩:=Ph (x:=v.1) (Sp a3) (k:=1) (by omega) (by omega);obtain⟨x4,q4,e4,_,b4,c4,f4⟩:=Vz (l:=v.2.1) (CI o1) (λy hy=>CI (o2 y hy)) (k:=q3) (by omega) (by omega);obtain⟨x5,q5,e5,_,b5,c5,f5⟩:=Uj (l:=v.2.2) (CI a5) (WQ a6) (k:=q4) (by omega) (by omega);simp only[UJ k3,Xl k6,a1,a2,Px a3,Px k3,Xm k6,WR o1 o2,V8 a5 a6,e1,e2,e3,e4,e5,f3,f4,f5,Option.bind_some,Bool.not_true,cF,x7 (show ¬q2<0 by omega),x7 (show ¬q3<0 by omega),x7 (show ¬q4<0 by omega),x7 (show ¬q5<0 by omega),bne_self_eq_false]
end Go.V.W

