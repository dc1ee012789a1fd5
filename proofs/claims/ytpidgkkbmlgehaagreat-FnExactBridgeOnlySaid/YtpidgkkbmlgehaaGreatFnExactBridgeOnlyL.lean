/- The law FnExactBridgeOnly: part of the proof that for every input it returns true. No condition. -/
import Derived.Test.YtpidgkkbmlgehaaGreatFnExactBridgeOnlyB
set_option linter.unusedVariables false
set_option linter.unusedSimpArgs false
namespace Go.V.W
theorem Da {n:Nat} (h:n<=M):n<=1100000:=Nat.le_trans h (by decide)
theorem Gg {b:oU} (h:sx M b):CK b:=by
 obtain⟨_,h2,h3,h4,h5⟩:=h;exact⟨Da h2,Da h3,Da h4,Da h5⟩
theorem fnExactBridgeOnly_pure (b:oU) (l:List Act) (h:Cs.wf p9 b) (hx:Cs.wf (.one (.sl qF)) l):rD b l=some true:=by
 unfold rD;obtain⟨r,h1,h2⟩:=GI (b:=b) (left:=1048576) ⟨by omega,by omega⟩ (FV h);rw[h1,Option.bind_some];rcases h2 with rfl|⟨k1,k2,k3⟩
 · rfl
 rw[pU (show ¬r<0 by omega),cF];obtain⟨s,h3,h4⟩:=IS (l:=l) (left:=r) ⟨by omega,by omega⟩ (HR hx);rw[h3,Option.bind_some];rcases h4 with rfl|⟨k4,k5,k6⟩
 · rfl
 rw[pU (show ¬s<0 by omega),cF];have hb:=EG h k3
 have a1:=Jm hb k3 k6.1;have a2:=Jr hb k3 k6.1
 have a3:sx M (zp l b):=(zq (l.take 60) b hb k3).2;obtain⟨x1,q1,e1,b1,c1,_⟩:=CL (x:=b) (Gg k3) (k:=1) (by omega) (by omega);obtain⟨x2,q2,e2,b0,b2,c2⟩:=Ih (l:=l) (Da k6.1) (λx hx=>⟨Da (k6.2 x hx).1,Da (k6.2 x hx).2⟩) (k:=q1) (by omega) (by omega);obtain⟨x3,q3,e3,b3,c3,f3⟩:=CL (x:=zp l b) (Gg a3) (k:=1) (by omega) (by omega);simp only[GJ k3,IT k6,a1,a2,CN a3,CN k3,IU k6,e1,e2,e3,f3,Option.bind_some,Bool.not_true,cF,pU (show ¬q2<0 by omega),pU (show ¬q3<0 by omega),bne_self_eq_false]
end Go.V.W

