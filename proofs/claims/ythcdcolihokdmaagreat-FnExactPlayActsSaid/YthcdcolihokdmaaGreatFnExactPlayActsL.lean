/- The law FnExactPlayActs: part of the proof that for every input it returns true. No condition. -/
import Derived.Test.YthcdcolihokdmaaGreatFnExactPlayActsB
set_option linter.unusedVariables false
set_option linter.unusedSimpArgs false
namespace Go.V.W
theorem VA {j:xH} (h:Cs.wf z6 j):A3 j.2.1:=by
 simp only[z6,Cs.wf,CT.wf]at h;obtain⟨_,h1,_⟩:=h;intro x hx;have:=h1.2 x hx
 have h2:0<=x/\x<=255:=this;exact h2
theorem SR {a:xk} (h:Cs.wf xL a):∀j∈x8 a,A3 j.2.1:=by
 simp only[xL,Cs.wf,CT.wf]at h;obtain⟨_,h1,h2,h3,h4,h5,_,_,_,_,_,h6,h7,_⟩:=h;intro j hj;apply VA;have:=h7.2 j hj
 simpa only[z6,Cs.wf,CT.wf]using this
theorem CY {n:Nat} (h:n<=M):n<=1100000:=Nat.le_trans h (by decide)
theorem SS {a:xk} (h:FY M a):PH a:=by
 obtain⟨⟨_,h2,h3,h4,h5⟩,_,h6,h7⟩:=h;refine⟨CY h2,CY h3,CY h4,CY h5,CY h6,λj hj=>?_⟩;obtain⟨j1,⟨j2,j3⟩,_,j5,j6,j7,j8⟩:=h7 j hj;exact⟨CY j1,⟨CY j2,λx hx=>⟨CY (j3 x hx).1,CY (j3 x hx).2.2⟩⟩,CY j5,CY j6,CY j7,CY j8⟩
theorem Xp {d:xX} (h:zz M d.2):fC d d=some true:=by
 have h2:=Uh (p:=d.2) h;unfold fC;simp[h2]
theorem VB {l:List xX} (hn:l.length<=M) (h:∀d∈l,zz M d.2):ff l l=some true:=Ch (CS (g:=fC) (λx hx=>Xp (h x hx)) (Ag hn))
theorem Xq {l:List xX} (h:∀d∈l,zz M d.2):∀x∈l,PJ x:=λx hx=>⟨CY (h x hx).1,λy hy=>⟨CY ((h x hx).2 y hy).1,CY ((h x hx).2 y hy).2.2⟩⟩
theorem Yu {o:xC} (h:o.2.2.2.2.length<=M):fJ o o=some true:=by
 have h2:=PW (f:=o.2) h;unfold fJ;simp[h2]
theorem Xr {l:List xC} (hn:l.length<=M) (h:∀d∈l,d.2.2.2.2.length<=M):fe l l=some true:=Ch (CS (g:=fJ) (λx hx=>Yu (h x hx)) (Ag hn))
theorem VC {x:Act} (h:Cs.wf zg x):A3 x.2.2.2.1:=by
 simp only[zg,Cs.wf,CT.wf]at h;intro y hy;have h2:0<=y/\y<=255:=h.2.2.2.1.2 y hy
 exact h2
theorem Yv {n:Nat} {l:List xC} (h:OL n l) (hn:n<=1000):l.length<=M/\∀d∈l,d.2.2.2.2.length<=M:=⟨by have:=h.1;show _<=1048576;omega,λd hd=>by have:=h.2 d hd;show _<=1048576;omega⟩
theorem fnExactPlayActs_pure (a:xk) (l:List Act) (h:Cs.wf xL a) (hx:Cs.wf (.one (.sl zg)) l):Ba a l=some true:=by
 unfold Ba;obtain⟨r,h1,h2⟩:=V7 (a:=a) (left:=1048576) ⟨by omega,by omega⟩ (TH h);rw[h1,Option.bind_some];rcases h2 with rfl|⟨k1,k2,k3⟩
 · rfl
 rw[xu (show ¬r<0 by omega),cF];obtain⟨s,h3,h4⟩:=WC (l:=l) (left:=r) ⟨by omega,by omega⟩ (V2 hx);rw[h3,Option.bind_some];rcases h4 with rfl|⟨k4,k5,k6⟩
 · rfl
 rw[xu (show ¬s<0 by omega),cF];have ha:DY a:=⟨SL h k3,k3,SR h⟩
 have hM:∀x∈l,Kn x:=λx hxl=>by
  refine⟨VC ?_,(k6.2 x hxl).1⟩;simp only[zg,Cs.wf,CT.wf]at hx;have:=hx.2 x hxl
  simpa only[zg,Cs.wf,CT.wf]using this
 obtain⟨a1,p⟩:=WH ha k6.1 hM;have a2:=WI ha k6.1 hM
 generalize EZ (l.take 60) a [] []=v at a1 a2 p;have a3:=p.a.2.1
 obtain⟨o1,o2⟩:=Yv p.o (by omega);have a5:v.2.2.length<=M:=by have:=p.d;show _<=1048576;omega
 have a6:=p.p;obtain⟨x1,q1,e1,b1,c1,_⟩:=PI (x:=a) (SS k3) (k:=1) (by omega) (by omega);obtain⟨x2,q2,e2,_,b2,c2,_⟩:=W4 (l:=l) (CY k6.1) (λy hy=>⟨CY (k6.2 y hy).1,CY (k6.2 y hy).2⟩) (k:=q1) (by omega) (by omega);obtain⟨x3,q3,e3,b3,c3,f3⟩:=PI (x:=v.1) (SS a3) (k:=1) (by omega) (by omega);obtain⟨x4,q4,e4,_,b4,c4,f4⟩:=W2 (l:=v.2.1) (CY o1) (λy hy=>CY (o2 y hy)) (k:=q3) (by omega) (by omega);obtain⟨x5,q5,e5,_,b5,c5,f5⟩:=UK (l:=v.2.2) (CY a5) (Xq a6) (k:=q4) (by omega) (by omega);simp only[Vb k3,WD k6,a1,a2,PY a3,PY k3,WE k6,Xr o1 o2,VB a5 a6,e1,e2,e3,e4,e5,f3,f4,f5,Option.bind_some,Bool.not_true,cF,xu (show ¬q2<0 by omega),xu (show ¬q3<0 by omega),xu (show ¬q4<0 by omega),xu (show ¬q5<0 by omega),bne_self_eq_false]
end Go.V.W

