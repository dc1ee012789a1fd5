/- The law FnExactOneTree: part of the proof that for every input it returns true. No condition. -/
import Derived.Test.YtnmjjciilpjkbaaJoined2
namespace Go.V.W
set_option linter.unusedVariables false
set_option linter.unusedSimpArgs false
/-! ### what is sent by -/
theorem role4 (id : Int) {l : List Pt} (hn : l.length < 9223372036854775807) (p : Int) : 1 ≤ roleV id l p := by
  have h := roleV_eq id hn p
  revert h
  generalize roleV id l p = v
  unfold impl_RoleOf
  rw [inT, Option.bind_some]
  intro h
  have key : ∀ (o : Option Bool) (f : Bool → Option Int), (∀ t x, f t = some x → 1 ≤ x) → o.bind f = some v → 1 ≤ v := by
    intro o f hf h
    cases o with
    | none => cases h
    | some t => exact hf t v h
  refine key _ _ (fun t x hx => ?_) h
  cases t with
  | true => cases hx; decide
  | false =>
    rw [cond_false] at hx
    cases hbv : impl_BestVec id l with
    | none => rw [hbv] at hx; cases hx
    | some w =>
      rw [hbv, Option.bind_some] at hx
      cases hw : w.2 == p with
      | true => rw [hw] at hx; cases hx; decide
      | false =>
        rw [hw, cond_false] at hx
        cases ha : at? l p with
        | none => rw [ha] at hx; cases hx
        | some y =>
          rw [ha, Option.bind_some] at hx
          revert hx
          generalize (cond (!y.2.2.1) _ _ : Option Bool) = o
          intro hx
          cases o with
          | none => cases hx
          | some t => cases t <;> (cases hx; decide)
theorem wrap_small {k : Nat} (h : k < 64) : IntKind.u64.wrap (k : Int) = (k : Int) := by
  show ((k : Int) % 18446744073709551616) = _
  omega
theorem bits6 : ∀ b : Fin 64, ∀ p : Fin 6, ∃ t c, shl .i64 1 (p.1 : Int) = some t ∧ bor .i64 (b.1 : Int) t = (c : Int) ∧ 0 ≤ c ∧ c < 64 := by
  intro b p
  have h : ∀ b : Fin 64, ∀ p : Fin 6, (decide (0 ≤ bor .i64 (b.1 : Int) (2 ^ p.1)) && decide (bor .i64 (b.1 : Int) (2 ^ p.1) < 64)) = true := by decide
  have h1 := h b p
  simp only [Bool.and_eq_true, decide_eq_true_eq] at h1
  have h2 : ∀ p : Fin 6, shl .i64 1 (p.1 : Int) = some (2 ^ p.1) := by decide
  exact ⟨_, _, h2 p, rfl, h1.1, h1.2⟩
theorem le_two {r : Int} (h : 1 ≤ r) : decide (r ≤ 2) = (r == 1 || r == 2) := by
  by_cases h2 : r ≤ 2
  · rw [decide_eq_true h2]
    rcases (show r = 1 ∨ r = 2 by omega) with rfl | rfl <;> rfl
  · rw [decide_eq_false h2, beq_eq_false_iff_ne.2 (show r ≠ 1 by omega), beq_eq_false_iff_ne.2 (show r ≠ 2 by omega)]; rfl
theorem sends_step (id : Int) {l : List Pt} (hn : l.length < 9223372036854775807) (z : Int × Int) (hz : 0 ≤ z.2) : spec_Sends_l0 id l z.1 z.2 = impl_Sends_l0 id l z.1 z.2 := by
  unfold spec_Sends_l0 impl_Sends_l0
  rw [roleS, roleV_eq id hn, Option.bind_some]
  have hr := role4 id hn z.2
  by_cases h1 : z.2 < (l.length : Int)
  · rw [dlt h1, cond_true]
    by_cases h2 : z.2 < 6
    · rw [dlt h2, Option.bind_some, Option.bind_some, cond_true, cond_true, Option.bind_some, le_two hr]
      obtain ⟨k, hk⟩ : ∃ k : Nat, z.2 = (k : Int) := ⟨z.2.toNat, by omega⟩
      rw [hk, wrap_small (by omega)]
      cases roleV id l (k : Int) == 1 <;> cases roleV id l (k : Int) == 2 <;> rfl
    · rw [dnlt h2]; rfl
  · rw [dnlt h1]; rfl
theorem sendsT (id : Int) {l : List Pt} (hn : l.length < 9223372036854775807) : ∃ c : Nat, c < 64 ∧ impl_Sends id l = some (c : Int) ∧ spec_Sends id l = some (c : Int) := by
  obtain ⟨v, h1, c, h2, rfl⟩ := loop_inv (step := fun z : Int × Int => impl_Sends_l0 id l z.1 z.2) (fun k z => z.2 = (k : Int) ∧ ∃ c : Nat, c < 64 ∧ z.1 = (c : Int)) (min l.length 6) (fun v => ∃ c : Nat, c < 64 ∧ v = (c : Int))
    (fun k z hk ⟨e1, c, e2, e3⟩ => by
      obtain ⟨b, i⟩ := z
      simp only at e1 e3
      subst e1 e3
      left
      have k6 : k < 6 := by omega
      obtain ⟨t, d, b1, b2, b3, b4⟩ := bits6 ⟨c, e2⟩ ⟨k, k6⟩
      have hs : impl_Sends_l0 id l (c : Int) (k : Int) = cond (roleV id l (k : Int) == 1 || roleV id l (k : Int) == 2) (some (.inl ((d : Int), ((k + 1 : Nat) : Int)))) (some (.inl ((c : Int), ((k + 1 : Nat) : Int)))) := by
        unfold impl_Sends_l0
        rw [dlt (show (k : Int) < (l.length : Int) by omega), dlt (show (k : Int) < 6 by omega), cond_true, Option.bind_some, cond_true, roleV_eq id hn, Option.bind_some, b1, Option.bind_some, b2, w64_nat (by omega)]
        cases roleV id l (k : Int) == 1 <;> cases roleV id l (k : Int) == 2 <;> rfl
      show ∃ y, impl_Sends_l0 id l (c : Int) (k : Int) = _ ∧ _
      rw [hs]
      cases (roleV id l (k : Int) == 1 || roleV id l (k : Int) == 2) with
      | true => exact ⟨_, rfl, rfl, d.toNat, by omega, by show d = _; omega⟩
      | false => exact ⟨_, rfl, rfl, c, e2, rfl⟩)
    (fun z ⟨e1, c, e2, e3⟩ => by
      obtain ⟨b, i⟩ := z
      simp only at e1 e3
      subst e1 e3
      refine ⟨(c : Int), ?_, c, e2, rfl⟩
      show impl_Sends_l0 id l _ _ = _
      unfold impl_Sends_l0
      by_cases h : l.length ≤ 6
      · rw [Nat.min_eq_left h, dnlt (by omega)]; rfl
      · rw [Nat.min_eq_right (by omega), dlt (by omega), dnlt (show ¬ (((6 : Nat) : Int) < 6) by omega)]; rfl) (x := (0, 0)) ⟨rfl, 0, by omega, rfl⟩
  refine ⟨c, h2, by unfold impl_Sends; rw [h1]; rfl, ?_⟩
  unfold spec_Sends
  rw [loop_congr (f := fun z : Int × Int => spec_Sends_l0 id l z.1 z.2) (g := fun z : Int × Int => impl_Sends_l0 id l z.1 z.2) (fun z => 0 ≤ z.2 ∧ z.2 ≤ 9223372036854775806) (fun z hz => sends_step id hn z hz.1) (fun z y hz hy => by
    have hy' : spec_Sends_l0 id l z.1 z.2 = some (.inl y) := hy
    rw [sends_step id hn z hz.1] at hy'
    unfold impl_Sends_l0 at hy'
    by_cases h1 : z.2 < (l.length : Int)
    · by_cases h2 : z.2 < 6
      · rw [dlt h1, dlt h2, cond_true, Option.bind_some, cond_true, roleV_eq id hn, Option.bind_some] at hy'
        have hw : w64 (z.2 + 1) = z.2 + 1 := w64_id (by omega) (by omega)
        rw [hw] at hy'
        revert hy'
        generalize (cond (roleV id l z.2 == 1) (some true) (some (roleV id l z.2 == 2))) = o
        intro hy'
        cases o with
        | none => cases hy'
        | some t =>
          rw [Option.bind_some] at hy'
          cases t with
          | false => cases hy'; exact ⟨by show 0 ≤ z.2 + 1; omega, by show z.2 + 1 ≤ _; omega⟩
          | true =>
            rw [cond_true] at hy'
            cases hs : shl .i64 1 z.2 with
            | none => rw [hs] at hy'; cases hy'
            | some q => rw [hs] at hy'; cases hy'; exact ⟨by show 0 ≤ z.2 + 1; omega, by show z.2 + 1 ≤ _; omega⟩
      · rw [dlt h1, dnlt h2] at hy'; cases hy'
    · rw [dnlt h1] at hy'; cases hy') (x := (0, 0)) ⟨by decide, by decide⟩, h1]
  rfl
/-- Whether a port is among those few. -/
def bitV (c : Nat) (p : Int) : Bool := cond (pIn p 0 7) (match shr .i64 (c : Int) p with | some t => (band .i64 t 1) == 1 | none => false) false
theorem bitS (c : Nat) (p : Int) : spec_l9Bit (c : Int) p = some (bitV c p) := by
  unfold spec_l9Bit bitV
  rw [inS, Option.bind_some]
  cases h : pIn p 0 7 with
  | false => rfl
  | true =>
    obtain ⟨k, hk, rfl⟩ := in_nat (n := 8) h
    rw [wrap_small (by omega), cond_true, cond_true]
    have : ∃ t, shr .i64 (c : Int) (k : Int) = some t := by unfold shr; rw [if_neg (by omega)]; exact ⟨_, rfl⟩
    obtain ⟨t, ht⟩ := this
    rw [ht]; rfl
theorem bitT {c : Nat} (hc : c < 64) (p : Int) : impl_hasPort (c : Int) p = some (bitV c p) := by
  unfold impl_hasPort bitV
  rw [inT, Option.bind_some]
  cases h : pIn p 0 62 with
  | false =>
    have h7 : pIn p 0 7 = false := by
      cases h7 : pIn p 0 7 with
      | false => rfl
      | true =>
        obtain ⟨k, hk, rfl⟩ := in_nat (n := 8) h7
        have : pIn (k : Int) 0 ((63 : Nat) - 1 : Int) = true := nat_in (by omega)
        exact absurd (h.symm.trans this) (by decide)
    rw [h7]; rfl
  | true =>
    obtain ⟨k, hk, rfl⟩ := in_nat (n := 63) h
    have hs : shr .i64 (c : Int) (k : Int) = some ((c : Int).fdiv (2 ^ (min k 64))) := by unfold shr; rw [if_neg (by omega)]; rfl
    rw [cond_true, hs, Option.bind_some, Option.bind_some]
    by_cases h7 : k < 8
    · rw [show pIn (k : Int) 0 7 = true from nat_in (n := 8) h7]; rfl
    · rw [show pIn (k : Int) 0 7 = false from by unfold pIn; rw [decide_eq_false (show ¬ (k : Int) ≤ 7 by omega), Bool.and_false], cond_false]
      have hz : (c : Int).fdiv (2 ^ (min k 64)) = 0 := by
        rw [Nat.min_eq_left (by omega)]
        have h2 : (c : Int) < 2 ^ k := by
          have : 2 ^ 6 ≤ 2 ^ k := Nat.pow_le_pow_right (by decide) (by omega)
          have h3 : c < 2 ^ k := by omega
          exact_mod_cast h3
        rw [Int.fdiv_eq_ediv_of_nonneg _ (by exact_mod_cast Nat.zero_le _)]
        exact Int.ediv_eq_zero_of_lt (by omega) h2
      rw [hz]; rfl
end Go.V.W
