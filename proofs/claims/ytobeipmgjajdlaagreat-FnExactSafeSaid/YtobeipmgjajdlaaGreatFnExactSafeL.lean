/- The law FnExactSafe: part of the proof that for every input it returns true. No condition. -/
import Derived.Test.YtobeipmgjajdlaaGreatFnExactSafeB
set_option linter.unusedVariables false
set_option linter.unusedSimpArgs false
namespace Go.V.W
theorem fnExactSafe_pure (n:kK) (h:Cs.wf lq n):pC n=some true:=by
 obtain⟨r,h1,h2⟩:=CS (n:=n) (left:=1048576) ⟨by omega,by omega⟩ (Cr h);unfold pC;rw[h1,Option.bind_some];rcases h2 with rfl|⟨k1,k2,k3⟩
 · rfl
 · have hn:=CX k3;have hw:∀b∈n.1,xL b:=λb hb=>by
    have h':=h;simp only[lq,Cs.wf,CT.wf]at h';exact zu (h'.1.2 b hb) (k3.1.2 b hb)
   obtain⟨x,x1,x2⟩:=B5 ⟨hn,k3.1.1,hw,k3.2.2⟩;rw[ls (by omega),cF,CU k3,Option.bind_some,x2,Option.bind_some,Option.bind_some,x1,Option.bind_some];simp[CW k3]
end Go.V.W

