/- The law FnExactNeedOf: part of the proof that for every input it returns true. No condition. -/
import Derived.Test.YtdhcmckfgnommaaGreatNeedOfB
namespace Go.V.W
set_option linter.unusedVariables false
set_option linter.unusedSimpArgs false
theorem job_byt {j : Job} (h : Cs.wf cJob j) : Byt j.2.1 := by
  simp only [cJob, Cs.wf, CT.wf] at h
  obtain ⟨_, h1, _⟩ := h
  intro x hx
  have := h1.2 x hx
  have h2 : 0 ≤ x ∧ x ≤ 255 := this
  exact h2
theorem agent_byt {a : Agent} (h : Cs.wf cAgent a) : ∀ j ∈ aJobs a, Byt j.2.1 := by
  simp only [cAgent, Cs.wf, CT.wf] at h
  obtain ⟨_, h1, h2, h3, h4, h5, _, _, _, _, _, h6, h7, _⟩ := h
  intro j hj
  apply job_byt
  have := h7.2 j hj
  simpa only [cJob, Cs.wf, CT.wf] using this
theorem needX {a : Agent} (ha : AWf a) (hl : ALe M a) (hb : ∀ j ∈ aJobs a, Byt j.2.1) (k : Int) : ∃ r, impl_NeedOf a k = some r ∧ spec_NeedOf a k = some r := by
  unfold impl_NeedOf spec_NeedOf
  rw [agentT ha, agentS ha]
  simp only [Option.bind_some]
  cases hp : pAgent a with
  | false => exact ⟨_, rfl, rfl⟩
  | true =>
    simp only [Bool.not_true, cond_false, inT, inS, Option.bind_some]
    have hn : (aJobs a).length ≤ 1048576 := ha.n
    have hw : w64 ((a.2.2.2.2.2.2.2.2.2.2.2.2.1.length : Int) - 1) = ((aJobs a).length : Int) - 1 := w64_id (by show -9223372036854775808 ≤ ((aJobs a).length : Int) - 1; omega) (by show ((aJobs a).length : Int) - 1 ≤ _; omega)
    rw [hw]
    cases hk : pIn k 0 (((aJobs a).length : Int) - 1) with
    | false => exact ⟨_, rfl, rfl⟩
    | true =>
      obtain ⟨k1, k2⟩ := pIn_true hk
      obtain ⟨n, rfl⟩ : ∃ n : Nat, k = (n : Int) := ⟨k.toNat, by omega⟩
      have hkn : n < (aJobs a).length := by omega
      have e0 : at? a.2.2.2.2.2.2.2.2.2.2.2.2.1 (n : Int) = some (aJobs a)[n] := at_nat hkn
      rw [e0]
      simp only [Bool.not_true, cond_false, Option.bind_some]
      have hx := hb _ (List.getElem_mem hkn)
      have hx2 : (aJobs a)[n].2.1.length ≤ M := (hl.2.2.2 _ (List.getElem_mem hkn)).1
      generalize (aJobs a)[n] = x at hx hx2
      obtain ⟨g, g1, g2, _, _⟩ := getMsg a.2.2.2.2.2.2.2.2.2.2.2.1 hx hx2
      have hask : impl_isAsked a x = some (g.1, cond (g.2 == 0) (g.1.1 != 162) false) := by
        unfold impl_isAsked
        rw [g1, Option.bind_some]
        cases (g.2 == 0) <;> rfl
      have hnot : (cond (g.2 != 0) (some true) (some (g.1.1 == 162))) = some (!(cond (g.2 == 0) (g.1.1 != 162) false)) := by
        rw [bne, bne]
        cases (g.2 == 0) <;> cases (g.1.1 == 162) <;> rfl
      rw [hask, g2]
      simp only [Option.bind_some, hnot]
      cases (x.2.2.2.1 == 163) <;> (try simp only [cond_true, cond_false, Option.bind_some]) <;>
        cases (a.2.2.2.2.2.2.2.2.2.2.1 != x.2.2.2.2.2.2.2.2.2.2.2.2.2.2.2.2.2.2.1) <;> (try simp only [cond_true, cond_false, Option.bind_some]) <;>
        cases decide (x.2.2.2.2.2.2.2.2.2.2.2.2.2.2.2.2.2.2.2.2 < 3) <;> (try simp only [cond_true, cond_false, Option.bind_some]) <;>
        cases (x.2.2.1 == 2) <;> (try simp only [cond_true, cond_false]) <;>
        cases (x.2.2.1 == 1) <;> (try simp only [cond_true, cond_false]) <;>
        cases (cond (g.2 == 0) (g.1.1 != 162) false) <;> exact ⟨_, rfl, rfl⟩
theorem fnExactNeedOf_pure (a : Agent) (k : Int) (h : Cs.wf cAgent a) : laws_FnExactNeedOf a k = some true := by
  unfold laws_FnExactNeedOf
  obtain ⟨r, h1, h2⟩ := szAgent (a := a) (left := 1048576) ⟨by omega, by omega⟩ (agent_wf h)
  rw [h1, Option.bind_some]
  rcases h2 with rfl | ⟨k1, k2, k3⟩
  · rfl
  · obtain ⟨w, w1, w2⟩ := needX (agent_awf h k3) k3 (agent_byt h) k
    rw [dnlt (by omega), cond_false]
    simp only [toAgent k3, w1, w2, eqAgent k3, Option.bind_some, bne_self_eq_false, cond_false, Bool.not_true]
end Go.V.W
