/- The law FnExactArrive: part of the proof that for every input it returns true. No condition. -/
import Derived.Test.YtdhcmckfgnommaaGreatArrive
import Derived.Test.YtdhcmckfgnommaaGreatV4
namespace Go.V.W
set_option linter.unusedVariables false
set_option linter.unusedSimpArgs false
theorem textLen {b : Int} {s : List UInt8} : (bytesOf [b] ++ s).length = s.length + 1 := by simp [bytesOf]
theorem mkTextL : ∀ (f : Nat) (k : Int) (s : List UInt8), 0 ≤ k → k < 2 ^ f → f ≤ 64 → s.length + f ≤ 100 → ∃ d, iter (fun z : Int × List UInt8 => laws_markText_l0 z.1 z.2) (f + 1) (k, s) = some d ∧ d.length ≤ s.length + f
  | 0, k, s, h0, h1, hf, hs => by
    rw [iter_succ]
    unfold laws_markText_l0
    rw [show decide (k > 0) = false from decide_eq_false (by simp at h1; omega), cond_false]
    exact ⟨s, rfl, by simp⟩
  | f + 1, k, s, h0, h1, hf, hs => by
    rw [iter_succ]
    unfold laws_markText_l0
    by_cases hk : k > 0
    · have hp : (2 : Int) ^ (f + 1) = 2 * 2 ^ f := by rw [Int.pow_succ]; omega
      have hq : (2 : Int) ^ (f + 1) ≤ 2 ^ 64 := by
        have := Nat.pow_le_pow_right (n := 2) (by omega) hf
        have h2 : ((2 ^ (f + 1) : Nat) : Int) ≤ ((2 ^ 64 : Nat) : Int) := Int.ofNat_le.2 this
        simpa using h2
      have hd : k.tdiv 10 = k / 10 := Int.tdiv_eq_ediv_of_nonneg h0
      have hlt : k / 10 < 2 ^ f := by omega
      have hw : w64 (k / 10) = k / 10 ∨ True := .inr trivial
      have hc : cat (bytesOf [IntKind.u8.wrap (w64 (48 + k.tmod 10))]) s = some (bytesOf [IntKind.u8.wrap (w64 (48 + k.tmod 10))] ++ s) := by
        unfold cat
        rw [if_pos]
        simp [bytesOf, maxN]; omega
      rw [decide_eq_true hk, cond_true, hc, Option.bind_some, hd]
      have hw2 : w64 (k / 10) = k / 10 := w64_nn (by omega) (by
        have : (2 : Int) ^ 64 = 18446744073709551616 := by decide
        omega)
      rw [hw2]
      obtain ⟨d, h2, h3⟩ := mkTextL f (k / 10) (bytesOf [IntKind.u8.wrap (w64 (48 + k.tmod 10))] ++ s) (by omega) hlt (by omega) (by rw [textLen]; omega)
      exact ⟨d, h2, by rw [textLen] at h3; omega⟩
    · rw [decide_eq_false hk, cond_false]
      exact ⟨s, rfl, by omega⟩
theorem mkText {k : Int} (h0 : 0 ≤ k) (hk : k ≤ 9000000000000000000) : ∃ s, laws_markText k = some s := by
  unfold laws_markText
  by_cases h : k ≤ 0
  · rw [decide_eq_true h]; exact ⟨_, rfl⟩
  · rw [decide_eq_false h, cond_false]
    obtain ⟨d, h1, h2⟩ := mkTextL 64 k [] h0 (by have : (2 : Int) ^ 64 = 18446744073709551616 := by decide
                                                 omega) (by omega) (by simp)
    rw [loop_of h1, Option.bind_some]
    unfold cat
    rw [if_pos]
    · exact ⟨_, rfl⟩
    · simp [maxN] at h2 ⊢; omega
set_option maxHeartbeats 8000000 in
theorem mkPtS {l : List Pt} (hl : l.length ≤ 1100000) {k : Int} (h0 : 0 ≤ k) (hk : k + 8800008 ≤ 9000000000000000000) : ∃ l' k', laws_markPtS l k = some (l', k') ∧ l'.length = l.length ∧ k ≤ k' ∧ k' ≤ k + 8800008 ∧ laws_heldPtS l' k = some k' := by
  obtain ⟨l', k', h1, h2, h3, h4, h5⟩ := mark_held (l := l) (M := laws_markPtS_l0) (H := laws_heldPtS_l0) (B := 8999999999999999992) (c := 8) (by omega)
    (fun x hx k h0 hk => by
      refine ⟨(((k).tmod 3) == 0, k + 1, ((k + 1 + 1).tmod 3) == 0, k + 1 + 1 + 1, k + 1 + 1 + 1 + 1, k + 1 + 1 + 1 + 1 + 1, k + 1 + 1 + 1 + 1 + 1 + 1, k + 1 + 1 + 1 + 1 + 1 + 1 + 1), k + 1 + 1 + 1 + 1 + 1 + 1 + 1 + 1, by omega, by omega, fun n ls hn hle hx' => ?_, fun n a hn hle hx' => ?_⟩
      · unfold laws_markPtS_l0
        simp (maxSteps := 10000000) (disch := omega) only [dlt (show (n : Int) < (ls.length : Int) by omega), cond_true, ix_nat hn, List.length_set, Option.bind_some, List.getElem?_eq_getElem hn, get_set_self, List.set_set, hx', w64_nn, w64_nat (show n < 9223372036854775807 by omega)]
      · unfold laws_heldPtS_l0
        simp (maxSteps := 10000000) (disch := omega) only [dlt (show (n : Int) < (a.length : Int) by omega), cond_true, cond_false, at_nat hn, Option.bind_some, hx', w64_nn, bne_self_eq_false, beq_self_eq_true, Bool.not_true, w64_nat (show n < 9223372036854775807 by omega)])
    (fun k ls => by unfold laws_markPtS_l0; rw [dnlt (by omega), cond_false])
    (fun k a => by unfold laws_heldPtS_l0; rw [dnlt (by omega), cond_false]) h0 (by omega)
  refine ⟨l', k', ?_, h2, h3, by omega, ?_⟩
  · unfold laws_markPtS; rw [h1]; rfl
  · unfold laws_heldPtS; rw [h5]; rfl
set_option maxHeartbeats 8000000 in
theorem mkFentS {l : List Fent} (hl : l.length ≤ 1100000) {k : Int} (h0 : 0 ≤ k) (hk : k + 5500005 ≤ 9000000000000000000) : ∃ l' k', laws_markFentS l k = some (l', k') ∧ l'.length = l.length ∧ k ≤ k' ∧ k' ≤ k + 5500005 ∧ laws_heldFentS l' k = some k' := by
  obtain ⟨l', k', h1, h2, h3, h4, h5⟩ := mark_held (l := l) (M := laws_markFentS_l0) (H := laws_heldFentS_l0) (B := 8999999999999999995) (c := 5) (by omega)
    (fun x hx k h0 hk => by
      refine ⟨(k, k + 1, k + 1 + 1, k + 1 + 1 + 1, ((k + 1 + 1 + 1 + 1).tmod 3) == 0), k + 1 + 1 + 1 + 1 + 1, by omega, by omega, fun n ls hn hle hx' => ?_, fun n a hn hle hx' => ?_⟩
      · unfold laws_markFentS_l0
        simp (maxSteps := 10000000) (disch := omega) only [dlt (show (n : Int) < (ls.length : Int) by omega), cond_true, ix_nat hn, List.length_set, Option.bind_some, List.getElem?_eq_getElem hn, get_set_self, List.set_set, hx', w64_nn, w64_nat (show n < 9223372036854775807 by omega)]
      · unfold laws_heldFentS_l0
        simp (maxSteps := 10000000) (disch := omega) only [dlt (show (n : Int) < (a.length : Int) by omega), cond_true, cond_false, at_nat hn, Option.bind_some, hx', w64_nn, bne_self_eq_false, beq_self_eq_true, Bool.not_true, w64_nat (show n < 9223372036854775807 by omega)])
    (fun k ls => by unfold laws_markFentS_l0; rw [dnlt (by omega), cond_false])
    (fun k a => by unfold laws_heldFentS_l0; rw [dnlt (by omega), cond_false]) h0 (by omega)
  refine ⟨l', k', ?_, h2, h3, by omega, ?_⟩
  · unfold laws_markFentS; rw [h1]; rfl
  · unfold laws_heldFentS; rw [h5]; rfl
set_option maxHeartbeats 8000000 in
theorem mkIntS {l : List Int} (hl : l.length ≤ 1100000) {k : Int} (h0 : 0 ≤ k) (hk : k + 1100001 ≤ 9000000000000000000) : ∃ l' k', laws_markIntS l k = some (l', k') ∧ l'.length = l.length ∧ k ≤ k' ∧ k' ≤ k + 1100001 ∧ laws_heldIntS l' k = some k' := by
  obtain ⟨l', k', h1, h2, h3, h4, h5⟩ := mark_held (l := l) (M := laws_markIntS_l0) (H := laws_heldIntS_l0) (B := 8999999999999999999) (c := 1) (by omega)
    (fun x hx k h0 hk => by
      refine ⟨k, k + 1, by omega, by omega, fun n ls hn hle hx' => ?_, fun n a hn hle hx' => ?_⟩
      · unfold laws_markIntS_l0
        simp (maxSteps := 10000000) (disch := omega) only [dlt (show (n : Int) < (ls.length : Int) by omega), cond_true, ix_nat hn, List.length_set, Option.bind_some, List.getElem?_eq_getElem hn, get_set_self, List.set_set, hx', w64_nn, w64_nat (show n < 9223372036854775807 by omega)]
      · unfold laws_heldIntS_l0
        simp (maxSteps := 10000000) (disch := omega) only [dlt (show (n : Int) < (a.length : Int) by omega), cond_true, cond_false, at_nat hn, Option.bind_some, hx', w64_nn, bne_self_eq_false, beq_self_eq_true, Bool.not_true, w64_nat (show n < 9223372036854775807 by omega)])
    (fun k ls => by unfold laws_markIntS_l0; rw [dnlt (by omega), cond_false])
    (fun k a => by unfold laws_heldIntS_l0; rw [dnlt (by omega), cond_false]) h0 (by omega)
  refine ⟨l', k', ?_, h2, h3, by omega, ?_⟩
  · unfold laws_markIntS; rw [h1]; rfl
  · unfold laws_heldIntS; rw [h5]; rfl
set_option maxHeartbeats 8000000 in
theorem mkVrowS {l : List Vrow} (hl : l.length ≤ 1100000) {k : Int} (h0 : 0 ≤ k) (hk : k + 3300003 ≤ 9000000000000000000) : ∃ l' k', laws_markVrowS l k = some (l', k') ∧ l'.length = l.length ∧ k ≤ k' ∧ k' ≤ k + 3300003 ∧ laws_heldVrowS l' k = some k' := by
  obtain ⟨l', k', h1, h2, h3, h4, h5⟩ := mark_held (l := l) (M := laws_markVrowS_l0) (H := laws_heldVrowS_l0) (B := 8999999999999999997) (c := 3) (by omega)
    (fun x hx k h0 hk => by
      refine ⟨(k, k + 1, k + 1 + 1), k + 1 + 1 + 1, by omega, by omega, fun n ls hn hle hx' => ?_, fun n a hn hle hx' => ?_⟩
      · unfold laws_markVrowS_l0
        simp (maxSteps := 10000000) (disch := omega) only [dlt (show (n : Int) < (ls.length : Int) by omega), cond_true, ix_nat hn, List.length_set, Option.bind_some, List.getElem?_eq_getElem hn, get_set_self, List.set_set, hx', w64_nn, w64_nat (show n < 9223372036854775807 by omega)]
      · unfold laws_heldVrowS_l0
        simp (maxSteps := 10000000) (disch := omega) only [dlt (show (n : Int) < (a.length : Int) by omega), cond_true, cond_false, at_nat hn, Option.bind_some, hx', w64_nn, bne_self_eq_false, beq_self_eq_true, Bool.not_true, w64_nat (show n < 9223372036854775807 by omega)])
    (fun k ls => by unfold laws_markVrowS_l0; rw [dnlt (by omega), cond_false])
    (fun k a => by unfold laws_heldVrowS_l0; rw [dnlt (by omega), cond_false]) h0 (by omega)
  refine ⟨l', k', ?_, h2, h3, by omega, ?_⟩
  · unfold laws_markVrowS; rw [h1]; rfl
  · unfold laws_heldVrowS; rw [h5]; rfl
def MkVtab (x : Vtab) : Prop := ((x.1).length ≤ 1100000) ∧ ((x.2).length ≤ 1100000)
theorem mkVtab {x : Vtab} (hx0 : MkVtab x) {k : Int} (h0 : 0 ≤ k) (hk : k + 4400004 ≤ 9000000000000000000) : ∃ x' k', laws_markVtab x k = some (x', k') ∧ k ≤ k' ∧ k' ≤ k + 4400004 ∧ laws_heldVtab x' k = some k' := by
  obtain ⟨y1, k1, e1, a1, b1, c1, f1⟩ := mkVrowS (l := x.1) (hx0.1) (k := k) (by omega) (by omega)
  obtain ⟨y2, k2, e2, a2, b2, c2, f2⟩ := mkIntS (l := x.2) (hx0.2) (k := k1) (by omega) (by omega)
  refine ⟨(y1, y2), k2, ?_, by omega, by omega, ?_⟩
  · simp only [laws_markVtab, Option.bind_some, e1, e2]
  · simp only [laws_heldVtab, Option.bind_some, cond_false, f1, dnlt (show ¬ k1 < 0 by omega), f2, dnlt (show ¬ k2 < 0 by omega)]
def MkBridge (x : Bridge) : Prop := ((x.2.2.1).length ≤ 1100000) ∧ ((x.2.2.2.1).length ≤ 1100000) ∧ ((x.2.2.2.2.1).length ≤ 1100000) ∧ ((x.2.2.2.2.2.1).length ≤ 1100000)
theorem mkBridge {x : Bridge} (hx0 : MkBridge x) {k : Int} (h0 : 0 ≤ k) (hk : k + 18700017 ≤ 9000000000000000000) : ∃ x' k', laws_markBridge x k = some (x', k') ∧ k ≤ k' ∧ k' ≤ k + 18700017 ∧ laws_heldBridge (x.1, x.2.1, x'.2.2.1, x'.2.2.2.1, x'.2.2.2.2.1, x'.2.2.2.2.2.1, x.2.2.2.2.2.2.1, x.2.2.2.2.2.2.2.1, x.2.2.2.2.2.2.2.2.1, x.2.2.2.2.2.2.2.2.2.1, x.2.2.2.2.2.2.2.2.2.2) k = some k' := by
  obtain ⟨y1, k1, e1, a1, b1, c1, f1⟩ := mkPtS (l := x.2.2.1) (hx0.1) (k := k) (by omega) (by omega)
  obtain ⟨y2, k2, e2, a2, b2, c2, f2⟩ := mkFentS (l := x.2.2.2.1) (hx0.2.1) (k := k1) (by omega) (by omega)
  obtain ⟨y3, k3, e3, a3, b3, c3, f3⟩ := mkVrowS (l := x.2.2.2.2.1) (hx0.2.2.1) (k := k2) (by omega) (by omega)
  obtain ⟨y4, k4, e4, a4, b4, c4, f4⟩ := mkIntS (l := x.2.2.2.2.2.1) (hx0.2.2.2) (k := k3) (by omega) (by omega)
  refine ⟨(x.1, x.2.1, y1, y2, y3, y4, x.2.2.2.2.2.2.1, x.2.2.2.2.2.2.2.1, x.2.2.2.2.2.2.2.2.1, x.2.2.2.2.2.2.2.2.2.1, x.2.2.2.2.2.2.2.2.2.2), k4, ?_, by omega, by omega, ?_⟩
  · simp only [laws_markBridge, laws_markVtab, Option.bind_some, e1, e2, e3, e4]
  · simp only [laws_heldBridge, laws_heldVtab, Option.bind_some, cond_false, f1, dnlt (show ¬ k1 < 0 by omega), f2, dnlt (show ¬ k2 < 0 by omega), f3, dnlt (show ¬ k3 < 0 by omega), f4, dnlt (show ¬ k4 < 0 by omega)]
def MkBindS (x : Bind) : Prop := ((x.1).length ≤ 1100000) ∧ ((x.2.2.2.2).length ≤ 1100000)
set_option maxHeartbeats 8000000 in
theorem mkBindS {l : List Bind} (hl : l.length ≤ 1100000) (ho : ∀ x ∈ l, MkBindS x) {k : Int} (h0 : 0 ≤ k) (hk : k + 2420007700005 ≤ 9000000000000000000) : ∃ l' k', laws_markBindS l k = some (l', k') ∧ l'.length = l.length ∧ k ≤ k' ∧ k' ≤ k + 2420007700005 ∧ laws_heldBindS l' k = some k' := by
  obtain ⟨l', k', h1, h2, h3, h4, h5⟩ := mark_held (l := l) (M := laws_markBindS_l0) (H := laws_heldBindS_l0) (B := 8999999999997799995) (c := 2200005) (by omega)
    (fun x hx k h0 hk => by
      have hx0 := ho x hx
      obtain ⟨y1, k1, e1, a1, b1, c1, f1⟩ := mkIntS (l := x.1) (hx0.1) (k := k) (by omega) (by omega)
      obtain ⟨y2, t2⟩ := mkText (k := k1 + 1 + 1) (by omega) (by omega)
      obtain ⟨y3, k3, e3, a3, b3, c3, f3⟩ := mkIntS (l := x.2.2.2.2) (hx0.2) (k := k1 + 1 + 1 + 1) (by omega) (by omega)
      refine ⟨(y1, k1, k1 + 1, y2, y3), k3, by omega, by omega, fun n ls hn hle hx' => ?_, fun n a hn hle hx' => ?_⟩
      · unfold laws_markBindS_l0
        simp (maxSteps := 10000000) (disch := omega) only [dlt (show (n : Int) < (ls.length : Int) by omega), cond_true, ix_nat hn, List.length_set, Option.bind_some, List.getElem?_eq_getElem hn, get_set_self, List.set_set, hx', w64_nn, w64_nat (show n < 9223372036854775807 by omega), e1, t2, e3]
      · unfold laws_heldBindS_l0
        simp (maxSteps := 10000000) (disch := omega) only [dlt (show (n : Int) < (a.length : Int) by omega), cond_true, cond_false, at_nat hn, Option.bind_some, hx', w64_nn, bne_self_eq_false, beq_self_eq_true, Bool.not_true, w64_nat (show n < 9223372036854775807 by omega), f1, dnlt (show ¬ k1 < 0 by omega), t2, f3, dnlt (show ¬ k3 < 0 by omega)])
    (fun k ls => by unfold laws_markBindS_l0; rw [dnlt (by omega), cond_false])
    (fun k a => by unfold laws_heldBindS_l0; rw [dnlt (by omega), cond_false]) h0 (by omega)
  refine ⟨l', k', ?_, h2, h3, by omega, ?_⟩
  · unfold laws_markBindS; rw [h1]; rfl
  · unfold laws_heldBindS; rw [h5]; rfl
set_option maxHeartbeats 8000000 in
theorem mkByteS {l : List Int} (hl : l.length ≤ 1100000) {k : Int} (h0 : 0 ≤ k) (hk : k + 1100001 ≤ 9000000000000000000) : ∃ l' k', laws_markByteS l k = some (l', k') ∧ l'.length = l.length ∧ k ≤ k' ∧ k' ≤ k + 1100001 ∧ laws_heldByteS l' k = some k' := by
  obtain ⟨l', k', h1, h2, h3, h4, h5⟩ := mark_held (l := l) (M := laws_markByteS_l0) (H := laws_heldByteS_l0) (B := 8999999999999999999) (c := 1) (by omega)
    (fun x hx k h0 hk => by
      refine ⟨IntKind.u8.wrap (k), k + 1, by omega, by omega, fun n ls hn hle hx' => ?_, fun n a hn hle hx' => ?_⟩
      · unfold laws_markByteS_l0
        simp (maxSteps := 10000000) (disch := omega) only [dlt (show (n : Int) < (ls.length : Int) by omega), cond_true, ix_nat hn, List.length_set, Option.bind_some, List.getElem?_eq_getElem hn, get_set_self, List.set_set, hx', w64_nn, w64_nat (show n < 9223372036854775807 by omega)]
      · unfold laws_heldByteS_l0
        simp (maxSteps := 10000000) (disch := omega) only [dlt (show (n : Int) < (a.length : Int) by omega), cond_true, cond_false, at_nat hn, Option.bind_some, hx', w64_nn, bne_self_eq_false, beq_self_eq_true, Bool.not_true, w64_nat (show n < 9223372036854775807 by omega)])
    (fun k ls => by unfold laws_markByteS_l0; rw [dnlt (by omega), cond_false])
    (fun k a => by unfold laws_heldByteS_l0; rw [dnlt (by omega), cond_false]) h0 (by omega)
  refine ⟨l', k', ?_, h2, h3, by omega, ?_⟩
  · unfold laws_markByteS; rw [h1]; rfl
  · unfold laws_heldByteS; rw [h5]; rfl
def MkJobS (x : Job) : Prop := ((x.2.1).length ≤ 1100000) ∧ ((x.2.2.2.2.2.2.2.1).length ≤ 1100000 ∧ ∀ y ∈ x.2.2.2.2.2.2.2.1, MkBindS y) ∧ ((x.2.2.2.2.2.2.2.2.2.2.1).length ≤ 1100000) ∧ ((x.2.2.2.2.2.2.2.2.2.2.2.1).length ≤ 1100000) ∧ ((x.2.2.2.2.2.2.2.2.2.2.2.2.1).length ≤ 1100000) ∧ ((x.2.2.2.2.2.2.2.2.2.2.2.2.2.1).length ≤ 1100000)
set_option maxHeartbeats 8000000 in
theorem mkJobS {l : List Job} (hl : l.length ≤ 1100000) (ho : ∀ x ∈ l, MkJobS x) {k : Int} (h0 : 0 ≤ k) (hk : k + 2662032670069300038 ≤ 9000000000000000000) : ∃ l' k', laws_markJobS l k = some (l', k') ∧ l'.length = l.length ∧ k ≤ k' ∧ k' ≤ k + 2662032670069300038 ∧ laws_heldJobS l' k = some k' := by
  obtain ⟨l', k', h1, h2, h3, h4, h5⟩ := mark_held (l := l) (M := laws_markJobS_l0) (H := laws_heldJobS_l0) (B := 8999997579972499962) (c := 2420027500038) (by omega)
    (fun x hx k h0 hk => by
      have hx0 := ho x hx
      obtain ⟨y1, k1, e1, a1, b1, c1, f1⟩ := mkByteS (l := x.2.1) (hx0.1) (k := k + 1) (by omega) (by omega)
      obtain ⟨y2, k2, e2, a2, b2, c2, f2⟩ := mkBindS (l := x.2.2.2.2.2.2.2.1) (hx0.2.1.1) (hx0.2.1.2) (k := k1 + 1 + 1 + 1 + 1 + 1) (by omega) (by omega)
      obtain ⟨y3, t3⟩ := mkText (k := k2 + 1) (by omega) (by omega)
      obtain ⟨y4, k4, e4, a4, b4, c4, f4⟩ := mkPtS (l := x.2.2.2.2.2.2.2.2.2.2.1) (hx0.2.2.1) (k := k2 + 1 + 1) (by omega) (by omega)
      obtain ⟨y5, k5, e5, a5, b5, c5, f5⟩ := mkFentS (l := x.2.2.2.2.2.2.2.2.2.2.2.1) (hx0.2.2.2.1) (k := k4) (by omega) (by omega)
      obtain ⟨y6, k6, e6, a6, b6, c6, f6⟩ := mkVrowS (l := x.2.2.2.2.2.2.2.2.2.2.2.2.1) (hx0.2.2.2.2.1) (k := k5) (by omega) (by omega)
      obtain ⟨y7, k7, e7, a7, b7, c7, f7⟩ := mkIntS (l := x.2.2.2.2.2.2.2.2.2.2.2.2.2.1) (hx0.2.2.2.2.2) (k := k6) (by omega) (by omega)
      refine ⟨(k, y1, k1, k1 + 1, k1 + 1 + 1, k1 + 1 + 1 + 1, k1 + 1 + 1 + 1 + 1, y2, k2, y3, y4, y5, y6, y7, k7, k7 + 1, k7 + 1 + 1, k7 + 1 + 1 + 1, k7 + 1 + 1 + 1 + 1, k7 + 1 + 1 + 1 + 1 + 1, k7 + 1 + 1 + 1 + 1 + 1 + 1), k7 + 1 + 1 + 1 + 1 + 1 + 1 + 1, by omega, by omega, fun n ls hn hle hx' => ?_, fun n a hn hle hx' => ?_⟩
      · unfold laws_markJobS_l0
        simp (maxSteps := 10000000) (disch := omega) only [dlt (show (n : Int) < (ls.length : Int) by omega), cond_true, ix_nat hn, List.length_set, Option.bind_some, List.getElem?_eq_getElem hn, get_set_self, List.set_set, hx', w64_nn, w64_nat (show n < 9223372036854775807 by omega), e1, e2, t3, e4, e5, e6, e7]
      · unfold laws_heldJobS_l0
        simp (maxSteps := 10000000) (disch := omega) only [dlt (show (n : Int) < (a.length : Int) by omega), cond_true, cond_false, at_nat hn, Option.bind_some, hx', w64_nn, bne_self_eq_false, beq_self_eq_true, Bool.not_true, w64_nat (show n < 9223372036854775807 by omega), f1, dnlt (show ¬ k1 < 0 by omega), f2, dnlt (show ¬ k2 < 0 by omega), t3, f4, dnlt (show ¬ k4 < 0 by omega), f5, dnlt (show ¬ k5 < 0 by omega), f6, dnlt (show ¬ k6 < 0 by omega), f7, dnlt (show ¬ k7 < 0 by omega)])
    (fun k ls => by unfold laws_markJobS_l0; rw [dnlt (by omega), cond_false])
    (fun k a => by unfold laws_heldJobS_l0; rw [dnlt (by omega), cond_false]) h0 (by omega)
  refine ⟨l', k', ?_, h2, h3, by omega, ?_⟩
  · unfold laws_markJobS; rw [h1]; rfl
  · unfold laws_heldJobS; rw [h5]; rfl
def MkAgent (x : Agent) : Prop := ((x.2.2.1).length ≤ 1100000) ∧ ((x.2.2.2.1).length ≤ 1100000) ∧ ((x.2.2.2.2.1).length ≤ 1100000) ∧ ((x.2.2.2.2.2.1).length ≤ 1100000) ∧ ((x.2.2.2.2.2.2.2.2.2.2.2.2.1).length ≤ 1100000 ∧ ∀ y ∈ x.2.2.2.2.2.2.2.2.2.2.2.2.1, MkJobS y)
theorem mkAgent {x : Agent} (hx0 : MkAgent x) {k : Int} (h0 : 0 ≤ k) (hk : k + 2662032670088000055 ≤ 9000000000000000000) : ∃ x' k', laws_markAgent x k = some (x', k') ∧ k ≤ k' ∧ k' ≤ k + 2662032670088000055 ∧ laws_heldAgent (x.1, x.2.1, x'.2.2.1, x'.2.2.2.1, x'.2.2.2.2.1, x'.2.2.2.2.2.1, x.2.2.2.2.2.2.1, x.2.2.2.2.2.2.2.1, x.2.2.2.2.2.2.2.2.1, x.2.2.2.2.2.2.2.2.2.1, x.2.2.2.2.2.2.2.2.2.2.1, x.2.2.2.2.2.2.2.2.2.2.2.1, x'.2.2.2.2.2.2.2.2.2.2.2.2.1, x.2.2.2.2.2.2.2.2.2.2.2.2.2.1, x.2.2.2.2.2.2.2.2.2.2.2.2.2.2) k = some k' := by
  obtain ⟨y1, k1, e1, a1, b1, c1, f1⟩ := mkPtS (l := x.2.2.1) (hx0.1) (k := k) (by omega) (by omega)
  obtain ⟨y2, k2, e2, a2, b2, c2, f2⟩ := mkFentS (l := x.2.2.2.1) (hx0.2.1) (k := k1) (by omega) (by omega)
  obtain ⟨y3, k3, e3, a3, b3, c3, f3⟩ := mkVrowS (l := x.2.2.2.2.1) (hx0.2.2.1) (k := k2) (by omega) (by omega)
  obtain ⟨y4, k4, e4, a4, b4, c4, f4⟩ := mkIntS (l := x.2.2.2.2.2.1) (hx0.2.2.2.1) (k := k3) (by omega) (by omega)
  obtain ⟨y5, k5, e5, a5, b5, c5, f5⟩ := mkJobS (l := x.2.2.2.2.2.2.2.2.2.2.2.2.1) (hx0.2.2.2.2.1) (hx0.2.2.2.2.2) (k := k4) (by omega) (by omega)
  refine ⟨(x.1, x.2.1, y1, y2, y3, y4, x.2.2.2.2.2.2.1, x.2.2.2.2.2.2.2.1, x.2.2.2.2.2.2.2.2.1, x.2.2.2.2.2.2.2.2.2.1, x.2.2.2.2.2.2.2.2.2.2.1, x.2.2.2.2.2.2.2.2.2.2.2.1, y5, x.2.2.2.2.2.2.2.2.2.2.2.2.2.1, x.2.2.2.2.2.2.2.2.2.2.2.2.2.2), k5, ?_, by omega, by omega, ?_⟩
  · simp only [laws_markAgent, laws_markVtab, laws_markBridge, Option.bind_some, e1, e2, e3, e4, e5]
  · simp only [laws_heldAgent, laws_heldVtab, laws_heldBridge, Option.bind_some, cond_false, f1, dnlt (show ¬ k1 < 0 by omega), f2, dnlt (show ¬ k2 < 0 by omega), f3, dnlt (show ¬ k3 < 0 by omega), f4, dnlt (show ¬ k4 < 0 by omega), f5, dnlt (show ¬ k5 < 0 by omega)]
end Go.V.W
