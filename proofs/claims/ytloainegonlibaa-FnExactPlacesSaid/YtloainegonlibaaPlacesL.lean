/- The law FnExactPlaces: part of the proof that for every input it returns true. No condition. -/
import Derived.Test.YtloainegonlibaaPlacesR
namespace Go.V.W
set_option linter.unusedVariables false
set_option linter.unusedSimpArgs false
theorem bridge_wf {b : Bridge} (h : Cs.wf cBridge b) : BLe maxLen b := by
  simp only [cBridge, Cs.wf, CT.wf] at h
  obtain ⟨_, h1, h2, h3, h4, h5, _⟩ := h
  exact ⟨h1, h2.1, h3.1, h4.1, h5.1⟩
theorem bridge_bwf {b : Bridge} (h : Cs.wf cBridge b) (hl : BLe M b) : BWf b := by
  obtain ⟨_, l2, l3, l4, l5⟩ := hl
  have hM : M < 9223372036854775807 := by decide
  refine ⟨by omega, by omega, by omega, by omega, fun r hr => ?_⟩
  simp only [cBridge, Cs.wf, CT.wf] at h
  obtain ⟨_, _, _, _, h4, _⟩ := h
  have := (h4.2 r hr).2.2
  exact this
theorem fnExactPlaces_pure (b : Bridge) (h : Cs.wf cBridge b) : laws_FnExactPlaces b = some true := by
  obtain ⟨r, h1, h2⟩ := szBridge (b := b) (left := 1048576) ⟨by omega, by omega⟩ (bridge_wf h)
  unfold laws_FnExactPlaces
  rw [h1, Option.bind_some]
  rcases h2 with rfl | ⟨k1, k2, k3⟩
  · rfl
  · have hb := bridge_bwf h k3
    obtain ⟨l, hl, _⟩ := mib_total hb
    rw [dnlt (by omega), cond_false, toBridge k3, Option.bind_some]
    unfold spec_Places impl_Places
    rw [mib_same hb, hl]
    simp [eqBridge k3, toBridge k3, hl]
end Go.V.W
