/- The law FnExactValText: part of the proof that for every input it returns true. No condition. -/
import Derived.Test.YtpfjdhdmkacnbaaDoorFnExactValTextB
namespace Go.V.W
set_option linter.unusedVariables false
set_option linter.unusedSimpArgs false
theorem fnExactValText_pure (v : Val) (h : Cs.wf cVal v) : laws_FnExactValText v = some true := by
  have hw : VLe maxLen v := by
    simp only [cVal, Cs.wf, CT.wf] at h
    exact ⟨h.2.2.1, h.2.2.2.1⟩
  obtain ⟨r, h1, h2⟩ := szVal (v := v) (left := 1048576) ⟨by omega, by omega⟩ hw
  unfold laws_FnExactValText
  rw [h1, Option.bind_some]
  rcases h2 with rfl | ⟨k1, k2, k3⟩
  · rfl
  · rw [dnlt (by omega), cond_false, toVal k3, Option.bind_some, valTextS k3, Option.bind_some, Option.bind_some, valTextT k3, Option.bind_some]
    simp [eqVal k3]
end Go.V.W

