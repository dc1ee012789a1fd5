/- The law FnMibs: part of the proof that for every input it returns true. No condition. -/
import Derived.Test.YtloainegonlibaaFnMibsB
namespace Go.V.W
set_option linter.unusedVariables false
set_option linter.unusedSimpArgs false
/-! ### what is drawn: the cursor -/
structure CW (c : L1Cur) : Prop where
  p : 0 ≤ c.2.1
  n : c.1.length < 9223372036854775807
theorem in_nat {n : Nat} {i : Int} (h : pIn i 0 ((n : Int) - 1) = true) : ∃ k : Nat, k < n ∧ i = (k : Int) := by
  unfold pIn at h
  simp only [Bool.and_eq_true, decide_eq_true_eq] at h
  exact ⟨i.toNat, by omega, by omega⟩
theorem nat_in {n k : Nat} (h : k < n) : pIn (k : Int) 0 ((n : Int) - 1) = true := by
  unfold pIn
  rw [decide_eq_true (by omega), decide_eq_true (by omega)]; rfl
theorem band255 (x : Int) : 0 ≤ band .i64 x 255 ∧ band .i64 x 255 ≤ 255 := by
  rw [bandT]
  have h1 : (BitVec.ofInt 64 x &&& BitVec.ofInt 64 255).toNat ≤ 255 := by
    rw [BitVec.toNat_and]
    exact Nat.le_trans Nat.and_le_right (by decide)
  rw [BitVec.toInt_eq_toNat_cond]
  split <;> omega
theorem byteD {c : L1Cur} (h : CW c) : ∃ c' r, spec_l1Byte c = some (c', r) ∧ CW c' ∧ 0 ≤ r ∧ r ≤ 255 := by
  unfold spec_l1Byte
  have hn := h.n
  have hp := h.p
  by_cases hlt : c.2.1 < (c.1.length : Int)
  · obtain ⟨k, hk⟩ : ∃ k : Nat, c.2.1 = (k : Int) := ⟨c.2.1.toNat, by omega⟩
    simp only [dlt hlt, cond_true]
    rw [hk, at_nat (by omega), Option.bind_some, w64_nat (by omega)]
    exact ⟨_, _, rfl, ⟨by show (0 : Int) ≤ ((k + 1 : Nat) : Int); omega, hn⟩, band255 _⟩
  · simp only [dnlt hlt, cond_false]
    exact ⟨_, _, rfl, ⟨hp, hn⟩, band255 _⟩
theorem rem_pos {a n : Int} (ha : 0 ≤ a) (hn : 1 ≤ n) : ∃ r, rem a n = some r ∧ 0 ≤ r ∧ r < n := by
  unfold rem
  rw [if_neg (by omega)]
  refine ⟨_, rfl, Int.tmod_nonneg _ ha, ?_⟩
  have := Int.tmod_lt_of_pos a (show 0 < n by omega)
  exact this
theorem belowD {c : L1Cur} (h : CW c) (n : Int) : ∃ c' r, spec_l1Below c n = some (c', r) ∧ CW c' ∧ 0 ≤ r ∧ (1 ≤ n → r < n) := by
  unfold spec_l1Below
  by_cases h0 : n ≤ 0
  · rw [decide_eq_true h0]
    exact ⟨_, _, rfl, h, Int.le_refl 0, fun h => by omega⟩
  · rw [decide_eq_false h0, cond_false]
    by_cases h1 : n ≤ 256
    · rw [decide_eq_true h1, cond_true]
      obtain ⟨c1, r1, e1, w1, a1, b1⟩ := byteD h
      obtain ⟨r, e, a, b⟩ := rem_pos (n := n) a1 (by omega)
      rw [e1, Option.bind_some, e, Option.bind_some]
      exact ⟨_, _, rfl, w1, a, fun _ => b⟩
    · rw [decide_eq_false h1, cond_false]
      obtain ⟨c1, r1, e1, w1, a1, b1⟩ := byteD h
      obtain ⟨c2, r2, e2, w2, a2, b2⟩ := byteD w1
      obtain ⟨c3, r3, e3, w3, a3, b3⟩ := byteD w2
      rw [e1, Option.bind_some, e2, Option.bind_some, e3, Option.bind_some]
      show ∃ c' r, ((rem (w64 (w64 (w64 (r1 * 65536) + w64 (r2 * 256)) + r3)) n).bind _) = _ ∧ _
      rw [w64_id (n := r1 * 65536) (by omega) (by omega), w64_id (n := r2 * 256) (by omega) (by omega), w64_id (n := r1 * 65536 + r2 * 256) (by omega) (by omega), w64_id (n := r1 * 65536 + r2 * 256 + r3) (by omega) (by omega)]
      obtain ⟨r, e, a, b⟩ := rem_pos (a := r1 * 65536 + r2 * 256 + r3) (n := n) (by omega) (by omega)
      rw [e, Option.bind_some]
      exact ⟨_, _, rfl, w3, a, fun _ => b⟩
/-- One below a natural number. -/
theorem belowN {c : L1Cur} (h : CW c) {n : Nat} (hn : 1 ≤ n) : ∃ c' k, spec_l1Below c (n : Int) = some (c', ((k : Nat) : Int)) ∧ CW c' ∧ k < n := by
  obtain ⟨c', r, e, w, a, b⟩ := belowD h (n : Int)
  have b := b (by omega)
  exact ⟨c', r.toNat, by rw [e]; congr 2; omega, w, by omega⟩
theorem onceD {c : L1Cur} (h : CW c) (n : Int) : ∃ c' r, spec_l1Once c n = some (c', r) ∧ CW c' := by
  obtain ⟨c', r, e, w, _⟩ := belowD h n
  unfold spec_l1Once
  rw [e, Option.bind_some]
  exact ⟨_, _, rfl, w⟩
theorem intD {c : L1Cur} (h : CW c) {l : List Int} (hl : 1 ≤ l.length) : ∃ c' x, spec_l1Int c l = some (c', x) ∧ CW c' ∧ x ∈ l := by
  obtain ⟨c', k, e, w, b⟩ := belowN h hl
  unfold spec_l1Int
  rw [e, Option.bind_some]
  show ∃ c'' x, (at? l (k : Int)).bind _ = _ ∧ _
  rw [at_nat b, Option.bind_some]
  exact ⟨_, _, rfl, w, List.getElem_mem b⟩
theorem strD {c : L1Cur} (h : CW c) {l : List (List UInt8)} (hl : 1 ≤ l.length) : ∃ c' x, spec_l1Str c l = some (c', x) ∧ CW c' ∧ x ∈ l := by
  obtain ⟨c', k, e, w, b⟩ := belowN h hl
  unfold spec_l1Str
  rw [e, Option.bind_some]
  show ∃ c'' x, (at? l (k : Int)).bind _ = _ ∧ _
  rw [at_nat b, Option.bind_some]
  exact ⟨_, _, rfl, w, List.getElem_mem b⟩
theorem newD {code : List Int} (h : code.length ≤ 1048576) : ∃ c, spec_l1New code = some c ∧ CW c := by
  obtain ⟨v, h1, -⟩ := loop_inv (step := fun z : Int × Int => spec_l1New_l0 code z.1 z.2) (fun k z => z.2 = (k : Int)) (min code.length 4000) (fun _ => True)
    (fun k z hk e => by
      obtain ⟨x, i⟩ := z
      simp only at e
      subst e
      left
      have k4 : k < 4000 := by omega
      have hs : ∃ y, spec_l1New_l0 code x (k : Int) = some (.inl (y, ((k + 1 : Nat) : Int))) := by
        unfold spec_l1New_l0
        rw [dlt (show (k : Int) < (code.length : Int) by omega), dlt (show (k : Int) < 4000 by omega), cond_true, Option.bind_some, cond_true, at_nat (by omega), Option.bind_some, w64_nat (by omega)]
        exact ⟨_, rfl⟩
      obtain ⟨y, hs⟩ := hs
      exact ⟨_, hs, rfl⟩)
    (fun z e => by
      obtain ⟨x, i⟩ := z
      simp only at e
      subst e
      refine ⟨x, ?_, trivial⟩
      show spec_l1New_l0 code x _ = _
      unfold spec_l1New_l0
      by_cases h : code.length ≤ 4000
      · rw [Nat.min_eq_left h, dnlt (by omega)]; rfl
      · rw [Nat.min_eq_right (by omega), dlt (by omega), dnlt (show ¬ (((4000 : Nat) : Int) < 4000) by omega)]; rfl) (x := (w64 (762762 + (code.length : Int)), 0)) rfl
  unfold spec_l1New
  show ∃ c, (loop (fun z => spec_l1New_l0 code z.1 z.2) (w64 (762762 + (code.length : Int)), 0)).bind (fun d => some (code, 0, d)) = some c ∧ CW c
  rw [h1, Option.bind_some]
  exact ⟨_, rfl, by show (0 : Int) ≤ 0; omega, by show code.length < _; omega⟩
end Go.V.W
