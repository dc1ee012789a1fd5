/- The law FnExactAnswersOf: part of the proof that for every input it returns true. No condition. -/
import Derived.Test.YtdhcmckfgnommaaAnswersOfB
namespace Go.V.W
set_option linter.unusedVariables false
set_option linter.unusedSimpArgs false
theorem job_byt {j : Job} (h : Cs.wf cJob j) : Byt j.2.1 := by
  simp only [cJob, Cs.wf, CT.wf] at h
  obtain ⟨_, h1, _⟩ := h
  intro x hx
  have := h1.2 x hx
  have h2 : 0 ≤ x ∧ x ≤ 255 := this
  exact h2
theorem agent_byt {a : Agent} (h : Cs.wf cAgent a) : ∀ j ∈ aJobs a, Byt j.2.1 := by
  simp only [cAgent, Cs.wf, CT.wf] at h
  obtain ⟨_, h1, h2, h3, h4, h5, _, _, _, _, _, h6, h7, _⟩ := h
  intro j hj
  apply job_byt
  have := h7.2 j hj
  simpa only [cJob, Cs.wf, CT.wf] using this
theorem loop_two' {α β : Type} {f g : α → Option (α ⊕ β)} (Inv : Nat → α → Prop) (m : Nat) (h : ∀ k x, k < m → Inv k x → ∃ y, f x = some (.inl y) ∧ g x = some (.inl y) ∧ Inv (k + 1) y) (he : ∀ x, Inv m x → ∃ b, f x = some (.inr b) ∧ g x = some (.inr b)) {x : α} (h0 : Inv 0 x) : ∃ b, loop f x = some b ∧ loop g x = some b := by
  have key : ∀ n k x, k + n = m → Inv k x → ∃ b, iter f (n + 1) x = some b ∧ iter g (n + 1) x = some b := by
    intro n
    induction n with
    | zero =>
      intro k x hk hx
      obtain rfl : k = m := by omega
      obtain ⟨b, h1, h2⟩ := he x hx
      exact ⟨b, by rw [iter_succ, h1]; rfl, by rw [iter_succ, h2]; rfl⟩
    | succ n ih =>
      intro k x hk hx
      obtain ⟨y, h1, h2, h3⟩ := h k x (by omega) hx
      obtain ⟨b, h4, h5⟩ := ih (k + 1) y (by omega) h3
      exact ⟨b, by rw [iter_succ, h1]; exact h4, by rw [iter_succ, h2]; exact h5⟩
  obtain ⟨b, h1, h2⟩ := key m 0 x (by omega) h0
  exact ⟨b, loop_of h1, loop_of h2⟩
theorem answersX {a : Agent} (hl : ALe M a) (hb : ∀ j ∈ aJobs a, Byt j.2.1) : ∃ r, impl_AnswersOf a = some r ∧ spec_AnswersOf a = some r := by
  have hn : (aJobs a).length ≤ 1048576 := hl.2.2.1
  unfold impl_AnswersOf spec_AnswersOf
  obtain ⟨b, h1, h2⟩ := loop_two' (f := fun z : Int × Int => impl_AnswersOf_l0 a z.1 z.2) (g := fun z : Int × Int => spec_AnswersOf_l0 a z.1 z.2) (fun k z => z.2 = (k : Int)) (aJobs a).length
    (fun k z hk hz => by
      obtain ⟨n, i⟩ := z
      simp only at hz
      subst hz
      unfold impl_AnswersOf_l0 spec_AnswersOf_l0
      have hlt : decide ((k : Int) < (a.2.2.2.2.2.2.2.2.2.2.2.2.1.length : Int)) = true := decide_eq_true (by show (k : Int) < ((aJobs a).length : Int); omega)
      have e0 : at? a.2.2.2.2.2.2.2.2.2.2.2.2.1 (k : Int) = some (aJobs a)[k] := at_nat hk
      have hx := hb _ (List.getElem_mem hk)
      have hx2 : (aJobs a)[k].2.1.length ≤ M := (hl.2.2.2 _ (List.getElem_mem hk)).1
      simp only [hlt, cond_true, e0, Option.bind_some]
      generalize (aJobs a)[k] = x at hx hx2
      obtain ⟨g, g1, g2, _, _⟩ := getMsg a.2.2.2.2.2.2.2.2.2.2.2.1 hx hx2
      have hask : impl_isAsked a x = some (g.1, cond (g.2 == 0) (g.1.1 != 162) false) := by
        unfold impl_isAsked
        rw [g1, Option.bind_some]
        cases (g.2 == 0) <;> rfl
      rw [hask, g2]
      simp only [Option.bind_some, w64_nat (show k < 9223372036854775807 by omega)]
      cases (g.2 == 0) <;> cases (g.1.1 != 162) <;> cases decide (x.2.2.1 > 0) <;> exact ⟨_, rfl, rfl, rfl⟩)
    (fun z hz => by
      obtain ⟨n, i⟩ := z
      simp only at hz
      subst hz
      unfold impl_AnswersOf_l0 spec_AnswersOf_l0
      have hlt : decide (((aJobs a).length : Int) < (a.2.2.2.2.2.2.2.2.2.2.2.2.1.length : Int)) = false := decide_eq_false (by show ¬ ((aJobs a).length : Int) < ((aJobs a).length : Int); omega)
      simp only [hlt, cond_false]
      exact ⟨_, rfl, rfl⟩) (x := (0, 0)) rfl
  rw [h1, h2]
  exact ⟨_, rfl, rfl⟩
theorem fnExactAnswersOf_pure (a : Agent) (h : Cs.wf cAgent a) : laws_FnExactAnswersOf a = some true := by
  unfold laws_FnExactAnswersOf
  obtain ⟨r, h1, h2⟩ := szAgent (a := a) (left := 1048576) ⟨by omega, by omega⟩ (agent_wf h)
  rw [h1, Option.bind_some]
  rcases h2 with rfl | ⟨k1, k2, k3⟩
  · rfl
  · obtain ⟨w, w1, w2⟩ := answersX k3 (agent_byt h)
    rw [dnlt (by omega), cond_false]
    simp only [toAgent k3, w1, w2, eqAgent k3, Option.bind_some, bne_self_eq_false, cond_false, Bool.not_true]
end Go.V.W
