/- The law FnExactFlow: part of the proof that for every input it returns true. No condition. -/
import Derived.Test.YthcdcolihokdmaaGreatFnExactFlowB
set_option linter.unusedVariables false
set_option linter.unusedSimpArgs false
namespace Go.V.W
theorem zK {n:Nat} (h:n<=M):n<=1100000:=Nat.le_trans h (by decide)
theorem Ib {b:mL} (h:v5 M b):xv b:=by
 obtain⟨_,h2,h3,h4,h5⟩:=h;exact⟨zK h2,zK h3,zK h4,zK h5⟩
theorem EV {n:nh} (h:wW M n):FY n:=⟨⟨zK h.1.1,λy hy=>Ib (h.1.2 y hy)⟩,zK h.2.1,zK h.2.2⟩
theorem Gp {u:pN} (h:DL u):u.2.2.2.2.2.length<=M:=Nat.le_trans h (by decide)
theorem IT {u:pN} (h:DL u):ch u u=some true:=by
 unfold ch;rw[CY (f:=u.2.2) (Gp h)];simp
theorem Id {l:List pN} (hn:l.length<=360) (h:∀u∈l,DL u):ci l l=some true:=sB (sa (g:=ch) (λx hx=>IT (h x hx)) (by omega))
theorem fnExactFlow_pure (n:nh) (b p:Int) (f:nM) (h:Cs.wf oi n) (hf:Cs.wf o8 f):qS n b p f=some true:=by
 unfold qS;obtain⟨r,h1,h2⟩:=IE (n:=n) (left:=1048576) ⟨by omega,by omega⟩ (HR h);rw[h1,Option.bind_some];rcases h2 with rfl|⟨k1,k2,k3⟩
 · rfl
 rw[nj (show ¬r<0 by omega),cF];have hfl:f.2.2.2.length<=maxLen:=by
  simp only[o8,Cs.wf,CT.wf]at hf;exact hf.2.2.2.1
 obtain⟨s,h3,h4⟩:=H7 (f:=f) (left:=r) ⟨by omega,by omega⟩ hfl;rw[h3,Option.bind_some];rcases h4 with rfl|⟨k4,k5,k6⟩
 · rfl
 rw[nj (show ¬s<0 by omega),cF];have hn:=II k3
 have hw:∀b∈n.1,vV b:=λb hb=>by
  have h':=h;simp only[oi,Cs.wf,CT.wf]at h';exact DO (h'.1.2 b hb) (k3.1.2 b hb)
 obtain⟨g,a1,a2,a3,a4,a5⟩:=FO ⟨hn,k3.1.1,hw,k3.2.2⟩ k3 b p f;obtain⟨x1,q1,e1,b1,c1,_⟩:=FZ (x:=n) (EV k3) (k:=1) (by omega) (by omega);obtain⟨x2,q2,e2,b2,c2,_⟩:=GM (x:=f) (zK k6) (k:=q1) (by omega) (by omega);obtain⟨x3,q3,e3,b3,c3,f3⟩:=FZ (x:=g.1) (EV a3) (k:=1) (by omega) (by omega);obtain⟨x4,q4,e4,_,b4,c4,f4⟩:=Hz (l:=g.2.1) (by omega) (λu hu=>zK (Gp (a5 u hu))) (k:=q3) (by omega) (by omega);have g1:=G8 a3
 have g2:=Id a4 a5;simp only[IF k3,H8 k6,a1,a2,g1,g2,G8 k3,CY k6,e1,e2,e3,e4,f3,f4,Option.bind_some,Bool.not_true,cF,nj (show ¬q2<0 by omega),nj (show ¬q3<0 by omega),nj (show ¬q4<0 by omega),bne_self_eq_false]
end Go.V.W

