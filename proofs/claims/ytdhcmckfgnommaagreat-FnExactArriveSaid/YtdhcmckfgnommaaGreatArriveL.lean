/- The law FnExactArrive: part of the proof that for every input it returns true. No condition. -/
import Derived.Test.YtdhcmckfgnommaaGreatArriveB
namespace Go.V.W
set_option linter.unusedVariables false
set_option linter.unusedSimpArgs false
theorem pAgent_parts {a : Agent} (h : pAgent a = true) : (aJobs a).length ≤ 6 ∧ pIn (aLost a) 0 1000000 = true ∧ pIn (aLast a) 0 1000000 = true := by
  unfold pAgent at h
  simp only [Bool.and_eq_true, decide_eq_true_eq] at h
  obtain ⟨_, _, _, h4, h5, h6⟩ := h
  exact ⟨by omega, h5, h6⟩
theorem arriveX {a : Agent} (ha : AWf a) (hl : ALe M a) {b : List Int} (hb : b.length ≤ M) : ∃ r, impl_Arrive a b = some r ∧ spec_Arrive a b = some r ∧ ALe M r := by
  have hM : M = 1048576 := rfl
  unfold impl_Arrive spec_Arrive
  rw [copyAgent hl, copyAgentS hl, agentT ha, agentS ha]
  simp only [Option.bind_some]
  cases hp : pAgent a with
  | false => exact ⟨_, rfl, rfl, hl⟩
  | true =>
    obtain ⟨h1, h2, h3⟩ := pAgent_parts hp
    obtain ⟨m, m1, m2, _⟩ := moreX h2
    have m1' : impl_more a.2.2.2.2.2.2.2.2.2.2.2.2.2.1 = some m := m1
    have m2' : spec_l11One a.2.2.2.2.2.2.2.2.2.2.2.2.2.1 = some m := m2
    simp only [Bool.not_true, cond_false, Option.bind_some, m1', m2', copyBytes hb, app_nil hb]
    have hn : (aJobs a).length ≤ 1048576 := ha.n
    by_cases h6 : ((aJobs a).length : Int) ≥ 6
    · have h6' : decide ((a.2.2.2.2.2.2.2.2.2.2.2.2.1.length : Int) ≥ 6) = true := decide_eq_true h6
      rw [h6', cond_true, Option.bind_some, cond_true]
      exact ⟨_, rfl, rfl, hl⟩
    · have h6' : decide ((a.2.2.2.2.2.2.2.2.2.2.2.2.1.length : Int) ≥ 6) = false := decide_eq_false h6
      rw [h6', cond_false, Option.bind_some]
      cases decide (a.2.2.2.2.2.2.2.2.2.2.2.2.2.2 ≥ 1000000) with
      | true => exact ⟨_, rfl, rfl, hl⟩
      | false =>
        have hap : ∀ j : Job, app a.2.2.2.2.2.2.2.2.2.2.2.2.1 [j] = some (a.2.2.2.2.2.2.2.2.2.2.2.2.1 ++ [j]) := fun j => app_small (by show (aJobs a).length + 1 ≤ _; omega)
        simp only [cond_false, hap, Option.bind_some]
        refine ⟨_, rfl, rfl, hl.1, hl.2.1, ?_, ?_⟩
        · show (aJobs a ++ [_]).length ≤ 1048576
          rw [List.length_append]; show (aJobs a).length + 1 ≤ _; omega
        · intro j hj
          rcases List.mem_append.1 hj with hj | hj
          · exact hl.2.2.2 j hj
          · simp only [List.mem_singleton] at hj
            subst hj
            exact ⟨hb, ⟨by show 0 ≤ 1048576; decide, fun x hx => by cases hx⟩, by show 0 ≤ 1048576; decide, by show 0 ≤ 1048576; decide, by show 0 ≤ 1048576; decide, by show 0 ≤ 1048576; decide, by show 0 ≤ 1048576; decide⟩
theorem leQ {n : Nat} (h : n ≤ M) : n ≤ 1100000 := Nat.le_trans h (by decide)
theorem mkA_of {a : Agent} (h : ALe M a) : MkAgent a := by
  obtain ⟨⟨_, h2, h3, h4, h5⟩, _, h6, h7⟩ := h
  refine ⟨leQ h2, leQ h3, leQ h4, leQ h5, leQ h6, fun j hj => ?_⟩
  obtain ⟨j1, ⟨j2, j3⟩, _, j5, j6, j7, j8⟩ := h7 j hj
  exact ⟨leQ j1, ⟨leQ j2, fun x hx => ⟨leQ (j3 x hx).1, leQ (j3 x hx).2.2⟩⟩, leQ j5, leQ j6, leQ j7, leQ j8⟩
theorem fnExactArrive_pure (a : Agent) (b : List Int) (h : Cs.wf cAgent a) : laws_FnExactArrive a b = some true := by
  unfold laws_FnExactArrive
  by_cases hd : (b.length : Int) > 1048576
  · rw [decide_eq_true hd]; rfl
  rw [decide_eq_false hd, cond_false]
  obtain ⟨r, h1, h2⟩ := szAgent (a := a) (left := 1048576) ⟨by omega, by omega⟩ (agent_wf h)
  rw [h1, Option.bind_some]
  rcases h2 with rfl | ⟨k1, k2, k3⟩
  · rfl
  have hbM : b.length ≤ M := by show b.length ≤ 1048576; omega
  have ha := agent_awf h k3
  obtain ⟨w, a1, a2, a3⟩ := arriveX ha k3 hbM
  obtain ⟨x1, q1, e1, b1, c1, _⟩ := mkAgent (x := a) (mkA_of k3) (k := 1) (by omega) (by omega)
  obtain ⟨x2, q2, e2, b0, b2, c2, _⟩ := mkByteS (l := b) (leQ hbM) (k := q1) (by omega) (by omega)
  obtain ⟨x3, q3, e3, b3, c3, f3⟩ := mkAgent (x := w) (mkA_of a3) (k := 1) (by omega) (by omega)
  rw [dnlt (show ¬ r < 0 by omega), cond_false]
  simp only [toAgent k3, toByteS hbM, a1, a2, eqAgent a3, eqAgent k3, eqByteS hbM, e1, e2, e3, f3, Option.bind_some, Bool.not_true, cond_false, dnlt (show ¬ q2 < 0 by omega), dnlt (show ¬ q3 < 0 by omega), bne_self_eq_false]
end Go.V.W
