/- The law FnExactIdle: part of the proof that for every input it returns true. No condition. -/
import Derived.Test.YtloainegonlibaaIdleR
namespace Go.V.W
set_option linter.unusedVariables false
theorem bind_wf {x : Bind} (h : Cs.wf cBind x) : XLe maxLen x := by
  simp only [cBind, Cs.wf, CT.wf] at h
  exact ⟨h.1.1, h.2.2.2.1, h.2.2.2.2.1⟩
theorem job_wf {j : Job} (h : Cs.wf cJob j) : JLe maxLen j := by
  simp only [cJob, Cs.wf, CT.wf] at h
  obtain ⟨_, h1, _, _, _, _, _, h2, _, h3, h4, h5, h6, h7, _⟩ := h
  refine ⟨h1.1, ⟨h2.1, fun x hx => bind_wf ?_⟩, ⟨h3, h4.1, h5.1, h6.1, h7.1⟩⟩
  have := h2.2 x hx
  simpa only [cBind, Cs.wf, CT.wf] using this
theorem agent_wf {a : Agent} (h : Cs.wf cAgent a) : ALe maxLen a := by
  simp only [cAgent, Cs.wf, CT.wf] at h
  obtain ⟨_, h1, h2, h3, h4, h5, _, _, _, _, _, h6, h7, _⟩ := h
  refine ⟨⟨h1, h2.1, h3.1, h4.1, h5.1⟩, h6, h7.1, fun x hx => job_wf ?_⟩
  have := h7.2 x hx
  simpa only [cJob, Cs.wf, CT.wf] using this
theorem fnExactIdle_pure (a : Agent) (h : Cs.wf cAgent a) : laws_FnExactIdle a = some true := by
  obtain ⟨r, h1, h2⟩ := szAgent (a := a) (left := 1048576) ⟨by omega, by omega⟩ (agent_wf h)
  unfold laws_FnExactIdle
  rw [h1, Option.bind_some]
  rcases h2 with rfl | ⟨k1, k2, k3⟩
  · rfl
  · rw [dnlt (by omega), cond_false, toAgent k3, Option.bind_some]
    unfold spec_Idle impl_Idle
    simp [eqAgent k3]
end Go.V.W
