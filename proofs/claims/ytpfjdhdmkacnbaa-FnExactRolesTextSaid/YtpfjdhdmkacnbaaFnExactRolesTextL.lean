/- The law FnExactRolesText: part of the proof that for every input it returns true. No condition. -/
import Derived.Test.YtpfjdhdmkacnbaaFnExactRolesTextB
namespace Go.V.W
set_option linter.unusedVariables false
set_option linter.unusedSimpArgs false
theorem fnExactRolesText_pure (b : Bridge) (h : Cs.wf cBridge b) : laws_FnExactRolesText b = some true := by
  have hw : BLe maxLen b := by
    simp only [cBridge, Cs.wf, CT.wf] at h
    exact ⟨h.2.1, h.2.2.1.1, h.2.2.2.1.1, h.2.2.2.2.1.1, h.2.2.2.2.2.1.1⟩
  obtain ⟨r, h1, h2⟩ := szBridge (b := b) (left := 1048576) ⟨by omega, by omega⟩ hw
  unfold laws_FnExactRolesText
  rw [h1, Option.bind_some]
  rcases h2 with rfl | ⟨k1, k2, k3⟩
  · rfl
  · rw [dnlt (by omega), cond_false, toBridge k3, Option.bind_some, rolesS k3.2.1, Option.bind_some, Option.bind_some, rolesT k3.2.1, Option.bind_some]
    simp [eqBridge k3]
end Go.V.W

