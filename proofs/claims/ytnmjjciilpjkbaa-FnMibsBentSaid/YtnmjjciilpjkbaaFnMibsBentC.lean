/- The law FnMibsBent: part of the proof that for every input it returns true. No condition. -/
import Derived.Test.YtnmjjciilpjkbaaBent2
namespace Go.V.W
set_option linter.unusedVariables false
set_option linter.unusedSimpArgs false
set_option linter.unusedVariables false
set_option linter.unusedSimpArgs false
theorem sameOidS : spec_SameOid = impl_SameOid := rfl
theorem sameOidT (a b : List Int) (h : b.length < 9223372036854775807) : ∃ r, impl_SameOid a b = some r := by
  unfold impl_SameOid
  by_cases hl : a.length = b.length
  · have e : ((a.length : Int) != (b.length : Int)) = false := by rw [hl]; simp
    rw [e, cond_false]
    obtain ⟨v, h1, -⟩ := loop_inv (step := fun z => impl_SameOid_l0 a b z) (fun k i => i = (k : Int)) a.length (fun _ => True)
      (fun k i hk e => by
        subst e
        have hs : impl_SameOid_l0 a b (k : Int) = cond (a[k] != (b[k]'(by omega))) (some (.inr (.inr false))) (some (.inl ((k + 1 : Nat) : Int))) := by
          unfold impl_SameOid_l0
          rw [dlt (by omega), cond_true, at_nat hk, Option.bind_some, at_nat (by omega), Option.bind_some, w64_nat (by omega)]
        cases hb : (a[k] != (b[k]'(by omega))) with
        | true => exact .inr ⟨_, by rw [hs, hb]; rfl, trivial⟩
        | false => exact .inl ⟨_, by rw [hs, hb]; rfl, rfl⟩)
      (fun i e => by
        subst e
        exact ⟨.inl (), by show impl_SameOid_l0 a b _ = _; unfold impl_SameOid_l0; rw [dnlt (by omega), cond_false], trivial⟩) (x := 0) rfl
    rw [h1, Option.bind_some]
    cases v with
    | inl u => exact ⟨true, rfl⟩
    | inr u => exact ⟨u, rfl⟩
  · have e : ((a.length : Int) != (b.length : Int)) = true := by simp; omega
    rw [e, cond_true]; exact ⟨_, rfl⟩
theorem belowS : spec_Below = impl_Below := rfl
theorem belowT (o h : List Int) (hh : h.length < 9223372036854775807) : ∃ r, impl_Below o h = some r := by
  unfold impl_Below
  by_cases hl : (o.length : Int) > (h.length : Int)
  · rw [decide_eq_true hl, cond_true]
    have hc : ∃ c, cut o 0 (h.length : Int) = some c := by
      unfold cut
      rw [if_pos (by omega), if_pos (by omega), if_pos (by omega)]
      exact ⟨_, rfl⟩
    obtain ⟨c, hc⟩ := hc
    obtain ⟨r, hr⟩ := sameOidT c h hh
    rw [hc, Option.bind_some, hr]; exact ⟨r, rfl⟩
  · rw [decide_eq_false hl, cond_false]; exact ⟨_, rfl⟩
theorem count_same (head : List Int) (l : List Bind) : (fun z : Int × Int => spec_CountBelow_l0 head l z.1 z.2) = fun z => impl_CountBelow_l0 head l z.1 z.2 := by
  funext z
  unfold spec_CountBelow_l0 impl_CountBelow_l0
  rw [belowS]
  by_cases h : z.2 < (l.length : Int)
  · rw [dlt h, cond_true, cond_true]
    unfold at? ix
    by_cases h0 : 0 ≤ z.2
    · simp only [if_pos h0, if_pos h, Option.bind_some]
    · simp only [if_neg h0, Option.bind_none]
  · rw [dnlt h, cond_false, cond_false]
theorem count_total (head : List Int) (l : List Bind) (h1 : head.length < 9223372036854775807) (h2 : l.length < 9223372036854775807) : ∃ r, loop (fun z : Int × Int => impl_CountBelow_l0 head l z.1 z.2) (0, 0) = some r := by
  obtain ⟨v, h1, -⟩ := loop_inv (step := fun z : Int × Int => impl_CountBelow_l0 head l z.1 z.2) (fun k z => z.2 = (k : Int)) l.length (fun _ => True)
    (fun k z hk e => by
      obtain ⟨n, i⟩ := z
      simp only at e
      subst e
      obtain ⟨r, hr⟩ := belowT l[k].1 head h1
      have hs : impl_CountBelow_l0 head l n (k : Int) = cond r (some (.inl (w64 (n + 1), ((k + 1 : Nat) : Int)))) (some (.inl (n, ((k + 1 : Nat) : Int)))) := by
        unfold impl_CountBelow_l0
        rw [dlt (by omega), cond_true, at_nat hk, Option.bind_some, hr, Option.bind_some, w64_nat (by omega)]
      cases r with
      | true => exact .inl ⟨_, hs, rfl⟩
      | false => exact .inl ⟨_, hs, rfl⟩)
    (fun z e => by
      obtain ⟨n, i⟩ := z
      simp only at e
      subst e
      exact ⟨n, by show impl_CountBelow_l0 head l n _ = _; unfold impl_CountBelow_l0; rw [dnlt (by omega), cond_false], trivial⟩) (x := (0, 0)) rfl
  exact ⟨v, h1⟩
theorem bridge_wf {b : Bridge} (h : Cs.wf cBridge b) : BLe maxLen b := by
  simp only [cBridge, Cs.wf, CT.wf] at h
  obtain ⟨_, h1, h2, h3, h4, h5, _⟩ := h
  exact ⟨h1, h2.1, h3.1, h4.1, h5.1⟩
theorem bridge_bwf {b : Bridge} (h : Cs.wf cBridge b) (hl : BLe M b) : BWf b := by
  obtain ⟨_, l2, l3, l4, l5⟩ := hl
  have hM : M < 9223372036854775807 := by decide
  refine ⟨by omega, by omega, by omega, by omega, fun r hr => ?_⟩
  simp only [cBridge, Cs.wf, CT.wf] at h
  obtain ⟨_, _, _, _, h4, _⟩ := h
  have := (h4.2 r hr).2.2
  exact this
end Go.V.W
