/- The law FnMibs: part of the proof that for every input it returns true. No condition. -/
import Derived.Test.YtloainegonlibaaDraw
namespace Go.V.W
set_option linter.unusedVariables false
set_option linter.unusedSimpArgs false
/-! ### what is drawn: networks -/
abbrev I64 (x : Int) : Prop := -9223372036854775808 ≤ x ∧ x ≤ 9223372036854775807
structure VT (v : Vtab) (n : Nat) : Prop where
  p : pVtab v (n : Int) = true
  r : ∀ r ∈ v.1, I64 r.2.2
theorem VT.len {v : Vtab} {n : Nat} (h : VT v n) : 1 ≤ n ∧ n ≤ 6 ∧ v.2.length = n ∧ v.1.length ≤ 6 := by
  have hp := h.p
  unfold pVtab pIn at hp
  simp only [Bool.and_eq_true, Bool.not_eq_true', Bool.or_eq_false_iff, Bool.not_eq_false', Bool.and_eq_true, decide_eq_true_eq, decide_eq_false_iff_not, bne_eq_false_iff_eq] at hp
  obtain ⟨⟨h1, h2, h3⟩, _⟩ := hp
  omega
theorem vtS {v : Vtab} (n : Int) (h1 : v.1.length ≤ 1000) (h2 : v.2.length ≤ 1000) (hr : ∀ r ∈ v.1, I64 r.2.2) : spec_VtabOk v n = some (pVtab v n) := vtabS n (by omega) (by omega) hr
theorem copyV {v : Vtab} (h1 : v.1.length ≤ 1000) (h2 : v.2.length ≤ 1000) : spec_l9Copy v = some v := by
  unfold spec_l9Copy
  unfold app
  have m : (maxN : Nat) = 4294967296 := rfl
  rw [if_pos (by show 0 + v.1.length ≤ maxN; omega), Option.bind_some, if_pos (by show 0 + v.2.length ≤ maxN; omega), Option.bind_some]
  rfl
/-- One of the two: the new one where it is right. -/
theorem orV {x v : Vtab} {n : Nat} (hv : VT v n) (h1 : x.1.length ≤ 1000) (h2 : x.2.length ≤ 1000) (hr : ∀ r ∈ x.1, I64 r.2.2) : ∃ y ok, spec_l9Or x v = some (y, ok) ∧ VT y n := by
  obtain ⟨l1, l2, l3, l4⟩ := hv.len
  unfold spec_l9Or
  rw [vtS _ h1 h2 hr, Option.bind_some]
  cases h : pVtab x (v.2.length : Int) with
  | true => exact ⟨_, _, rfl, by rw [l3] at h; exact h, hr⟩
  | false =>
    rw [Bool.not_false, cond_true, copyV (by omega) (by omega), Option.bind_some]
    exact ⟨_, _, rfl, hv⟩
theorem okV {v : Vtab} {n : Nat} (hv : VT v n) : spec_VtabOk v (v.2.length : Int) = some true := by
  obtain ⟨l1, l2, l3, l4⟩ := hv.len
  rw [vtS _ (by omega) (by omega) hv.r, l3, hv.p]
theorem pvidV {v : Vtab} {n : Nat} (hv : VT v n) (port id : Int) : ∃ y ok, spec_SetPvid v port id = some (y, ok) ∧ VT y n := by
  obtain ⟨l1, l2, l3, l4⟩ := hv.len
  unfold spec_SetPvid
  rw [okV hv, Option.bind_some, Bool.not_true, cond_false, inS, Option.bind_some, Option.bind_some, copyV (by omega) (by omega), w64_id (n := (v.2.length : Int) - 1) (by omega) (by omega)]
  cases hin : pIn port 0 ((v.2.length : Int) - 1) with
  | false => exact ⟨_, _, rfl, hv⟩
  | true =>
    obtain ⟨k, hk, rfl⟩ := in_nat hin
    simp only [Bool.not_true, cond_false, Option.bind_some, ix_nat hk, List.getElem?_eq_getElem hk]
    obtain ⟨y, ok, e, hy⟩ := orV (x := (v.1, v.2.set k id)) hv (by show v.1.length ≤ _; omega) (by show (v.2.set k id).length ≤ _; rw [List.length_set]; omega) hv.r
    rw [e]
    exact ⟨_, _, rfl, hy⟩
theorem rowAtL {v : Vtab} (hn : v.1.length < 9223372036854775807) (id : Int) : ∃ r, spec_RowAt v id = some r ∧ (r = -1 ∨ ∃ k : Nat, k < v.1.length ∧ r = (k : Int)) := by
  rw [rowAtS]
  unfold impl_RowAt
  obtain ⟨b, h1, h2⟩ := loop_inv (β := Unit ⊕ Int) (step := fun z => impl_RowAt_l0 v id z) (fun k i => i = (k : Int)) v.1.length (fun b => ∀ r, b = .inr r → ∃ k : Nat, k < v.1.length ∧ r = (k : Int))
    (fun k i hk h => by
      subst h
      unfold impl_RowAt_l0
      rw [dlt (by omega), cond_true, at_nat hk, Option.bind_some]
      cases (v.1[k].1 == id) with
      | true => exact .inr ⟨_, rfl, fun r hr => ⟨k, hk, by cases hr; rfl⟩⟩
      | false => exact .inl ⟨_, rfl, w64_nat (by omega)⟩)
    (fun i h => by
      subst h
      unfold impl_RowAt_l0
      rw [dnlt (by omega)]
      exact ⟨_, rfl, fun r hr => by cases hr⟩) (x := 0) rfl
  rw [h1, Option.bind_some]
  cases b with
  | inl _ => exact ⟨_, rfl, .inl rfl⟩
  | inr r => exact ⟨r, rfl, .inr (h2 r rfl)⟩
theorem cut_ok {α : Type} {l : List α} {a b : Nat} (h1 : a ≤ b) (h2 : b ≤ l.length) : cut l (a : Int) (b : Int) = some ((l.take b).drop a) := by
  unfold cut
  rw [if_pos (by omega), if_pos (by omega), if_pos (by omega)]; simp
theorem app_small {α : Type} {xs ys : List α} (h : xs.length + ys.length ≤ 4294967296) : app xs ys = some (xs ++ ys) := by
  unfold app
  rw [if_pos (show xs.length + ys.length ≤ maxN from h)]
theorem dropV {v : Vtab} {n : Nat} (hv : VT v n) (id : Int) : ∃ y ok, spec_DropRow v id = some (y, ok) ∧ VT y n := by
  obtain ⟨l1, l2, l3, l4⟩ := hv.len
  obtain ⟨r, hr, hr2⟩ := rowAtL (v := v) (by omega) id
  unfold spec_DropRow
  rw [hr, Option.bind_some, okV hv, Option.bind_some, Bool.not_true, cond_false, copyV (by omega) (by omega), Option.bind_some, Option.bind_some, Option.bind_some]
  rcases hr2 with rfl | ⟨k, hk, rfl⟩
  · exact ⟨_, _, rfl, hv⟩
  · rw [dnlt (by omega), cond_false, show (0 : Int) = ((0 : Nat) : Int) from rfl, cut_ok (by omega) (by omega), Option.bind_some, w64_nat (by omega), cut_ok (by omega) (by omega)]
    have t1 : ((v.1.take k).drop 0).length ≤ 6 := by simp; omega
    have t2 : ((v.1.take v.1.length).drop (k + 1)).length ≤ 6 := by simp; omega
    rw [app_small (by show 0 + _ ≤ _; omega), Option.bind_some, Option.bind_some, List.nil_append, app_small (by omega), Option.bind_some]
    obtain ⟨y, ok, e, hy⟩ := orV (x := ((v.1.take k).drop 0 ++ (v.1.take v.1.length).drop (k + 1), v.2)) hv (by show ((v.1.take k).drop 0 ++ (v.1.take v.1.length).drop (k + 1)).length ≤ _; rw [List.length_append]; omega) (by show v.2.length ≤ _; omega) (fun r hr => by
      rcases List.mem_append.1 hr with hr | hr
      · exact hv.r r (List.mem_of_mem_take (List.mem_of_mem_drop hr))
      · exact hv.r r (List.mem_of_mem_take (List.mem_of_mem_drop hr)))
    rw [e]
    exact ⟨_, _, rfl, hy⟩
theorem rowV {v : Vtab} {n : Nat} (hv : VT v n) {r : Vrow} (hr : I64 r.2.2) : ∃ y, spec_l9Row v r = some y ∧ y.1.length ≤ 1000 ∧ y.2.length ≤ 1000 ∧ ∀ r ∈ y.1, I64 r.2.2 := by
  obtain ⟨l1, l2, l3, l4⟩ := hv.len
  obtain ⟨d, h1, h2, h3⟩ := loop_inv (step := fun z : Bool × Int × List Vrow => spec_l9Row_l0 v r z.1 z.2.1 z.2.2) (fun k z => z.2.1 = (k : Int) ∧ z.2.2.length ≤ 2 * k ∧ ∀ x ∈ z.2.2, I64 x.2.2) v.1.length (fun d => d.2.length ≤ 12 ∧ ∀ x ∈ d.2, I64 x.2.2)
    (fun k z hk ⟨e1, e2, e3⟩ => by
      obtain ⟨t, i, b⟩ := z
      simp only at e1 e2 e3
      subst e1
      left
      have hvk : I64 v.1[k].2.2 := hv.r _ (List.getElem_mem hk)
      show ∃ y, spec_l9Row_l0 v r t (k : Int) b = _ ∧ _
      unfold spec_l9Row_l0
      simp only [dlt (show (k : Int) < (v.1.length : Int) by omega), cond_true, at_nat hk, Option.bind_some, w64_nat (show k < 9223372036854775807 by omega), Int.not_lt]
      have ha : ∀ (xs : List Vrow) (y : Vrow), xs.length ≤ 100 → app xs [y] = some (xs ++ [y]) := fun xs y h => app_small (by show xs.length + 1 ≤ _; omega)
      have key : ∀ (tt : Bool), ((cond (!t) (some (decide (v.1[k].1 ≥ r.1))) (some false)) = some tt → ∃ y : Bool × Int × List Vrow, (cond tt ((app b [r]).bind fun zs37 => cond (v.1[k].1 != r.1) ((app zs37 [v.1[k]]).bind fun zs56 => some (.inl (true, ((k + 1 : Nat) : Int), zs56))) (some (.inl (true, ((k + 1 : Nat) : Int), zs37)))) (cond (v.1[k].1 != r.1) ((app b [v.1[k]]).bind fun zs56_1 => some (.inl (t, ((k + 1 : Nat) : Int), zs56_1))) (some (.inl (t, ((k + 1 : Nat) : Int), b)))) : Option ((Bool × Int × List Vrow) ⊕ (Bool × List Vrow))) = some (.inl y) ∧ y.2.1 = ((k + 1 : Nat) : Int) ∧ y.2.2.length ≤ 2 * (k + 1) ∧ ∀ x ∈ y.2.2, I64 x.2.2) := by
        intro tt _
        cases tt with
        | true =>
          rw [cond_true, ha b r (by omega), Option.bind_some]
          cases v.1[k].1 != r.1 with
          | true =>
            rw [cond_true, ha (b ++ [r]) _ (by simp; omega), Option.bind_some]
            refine ⟨_, rfl, rfl, by simp; omega, fun x hx => ?_⟩
            simp at hx
            rcases hx with hx | rfl | rfl
            · exact e3 x hx
            · exact hr
            · exact hvk
          | false =>
            refine ⟨_, rfl, rfl, by simp; omega, fun x hx => ?_⟩
            simp at hx
            rcases hx with hx | rfl
            · exact e3 x hx
            · exact hr
        | false =>
          rw [cond_false]
          cases v.1[k].1 != r.1 with
          | true =>
            rw [cond_true, ha b _ (by omega), Option.bind_some]
            refine ⟨_, rfl, rfl, by simp; omega, fun x hx => ?_⟩
            simp at hx
            rcases hx with hx | rfl
            · exact e3 x hx
            · exact hvk
          | false => exact ⟨_, rfl, rfl, by show b.length ≤ _; omega, e3⟩
      cases ht : (cond (!t) (some (decide (v.1[k].1 ≥ r.1))) (some false)) with
      | none => cases t <;> cases ht
      | some tt =>
        rw [Option.bind_some]
        exact key tt ht)
    (fun z ⟨e1, e2, e3⟩ => by
      obtain ⟨t, i, b⟩ := z
      simp only at e1 e2 e3
      subst e1
      refine ⟨(t, b), ?_, by show b.length ≤ 12; omega, e3⟩
      show spec_l9Row_l0 v r t _ b = _
      unfold spec_l9Row_l0
      rw [dnlt (by omega), cond_false]) (x := (false, 0, [])) ⟨rfl, by simp, fun x hx => absurd hx List.not_mem_nil⟩
  unfold spec_l9Row
  rw [app_small (by show 0 + v.2.length ≤ _; omega), Option.bind_some, h1, Option.bind_some, List.nil_append]
  cases d.1 with
  | true => exact ⟨_, rfl, by show d.2.length ≤ _; omega, by show v.2.length ≤ _; omega, h3⟩
  | false =>
    rw [Bool.not_false, cond_true, app_small (by show d.2.length + 1 ≤ _; omega), Option.bind_some]
    refine ⟨_, rfl, by show (d.2 ++ [r]).length ≤ _; simp; omega, by show v.2.length ≤ _; omega, fun x hx => ?_⟩
    have hx : x ∈ d.2 ++ [r] := hx
    simp at hx
    rcases hx with hx | rfl
    · exact h3 x hx
    · exact hr
theorem putV {v : Vtab} {n : Nat} (hv : VT v n) {r : Vrow} (hr : I64 r.2.2) : ∃ y ok, spec_PutRow v r = some (y, ok) ∧ VT y n := by
  obtain ⟨x, hx, h1, h2, h3⟩ := rowV hv hr
  unfold spec_PutRow
  rw [okV hv, Option.bind_some, Bool.not_true, cond_false, hx, Option.bind_some]
  obtain ⟨y, ok, e, hy⟩ := orV hv h1 h2 h3
  rw [e]
  exact ⟨_, _, rfl, hy⟩
theorem bandI (a b : Int) : I64 (band .i64 a b) := by
  rw [bandT]
  have h1 := BitVec.toInt_lt (x := BitVec.ofInt 64 a &&& BitVec.ofInt 64 b)
  have h2 := BitVec.le_toInt (x := BitVec.ofInt 64 a &&& BitVec.ofInt 64 b)
  exact ⟨by omega, by omega⟩
theorem row2D {c : L1Cur} (h : CW c) {n : Nat} (h1 : 1 ≤ n) (h6 : n ≤ 6) : ∃ c' r, spec_l9Row2 c (n : Int) = some (c', r) ∧ CW c' ∧ I64 r.2.2 := by
  obtain ⟨t, ht, _⟩ := shlS (i := (n : Int)) (by unfold pIn; rw [decide_eq_true (by omega), decide_eq_true (by omega)]; rfl)
  unfold spec_l9Row2
  rw [ht, Option.bind_some]
  obtain ⟨c1, r1, e1, w1, _⟩ := belowD h (w64 ((w64 (t - 1)) + 1))
  obtain ⟨c2, r2, e2, w2, _⟩ := intD w1 (l := [1, 2, 3, 2]) (by decide)
  obtain ⟨c3, r3, e3, w3, _⟩ := belowD w2 (w64 ((w64 (t - 1)) + 1))
  rw [e1, Option.bind_some, e2, Option.bind_some, e3, Option.bind_some]
  exact ⟨_, _, rfl, w3, bandI _ _⟩
end Go.V.W
