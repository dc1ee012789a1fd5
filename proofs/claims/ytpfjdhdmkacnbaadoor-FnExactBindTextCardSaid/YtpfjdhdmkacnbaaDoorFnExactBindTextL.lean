/- The law FnExactBindText: part of the proof that for every input it returns true. No condition. -/
import Derived.Test.YtpfjdhdmkacnbaaDoorFnExactBindTextB
namespace Go.V.W
set_option linter.unusedVariables false
set_option linter.unusedSimpArgs false
theorem fnExactBindText_pure (x : Bind) (h : Cs.wf cBind x) : laws_FnExactBindText x = some true := by
  obtain ⟨r, h1, h2⟩ := szBind (x := x) (left := 1048576) ⟨by omega, by omega⟩ (bind_wf h)
  unfold laws_FnExactBindText
  rw [h1, Option.bind_some]
  rcases h2 with rfl | ⟨k1, k2, k3⟩
  · rfl
  · rw [dnlt (by omega), cond_false, toBind k3, Option.bind_some, bindTextS k3, Option.bind_some, Option.bind_some, bindTextT k3, Option.bind_some]
    simp [eqBind k3]
end Go.V.W

