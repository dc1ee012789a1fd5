/- The law FnMibs: part of the proof that for every input it returns true. No condition. -/
import Derived.Test.YtloainegonlibaaDrawV
namespace Go.V.W
set_option linter.unusedVariables false
set_option linter.unusedSimpArgs false
/-! ### a new table of networks; a drawn one -/
theorem newV {n : Nat} (h1 : 1 ≤ n) (h6 : n ≤ 6) : spec_VtabNew (n : Int) = some ([(1, pTop (n : Int), pTop (n : Int))], List.replicate n 1) := by
  have hin : pIn (n : Int) 1 6 = true := by unfold pIn; rw [decide_eq_true (by omega), decide_eq_true (by omega)]; rfl
  obtain ⟨t, ht, ht2⟩ := shlS hin
  obtain ⟨d, hd, rfl⟩ := loop_inv (step := fun z : Int × List Int => spec_VtabNew_l0 (n : Int) z.1 z.2) (fun k z => z.1 = (k : Int) ∧ z.2 = List.replicate k 1) n (fun d => d = List.replicate n 1)
    (fun k z hk ⟨e1, e2⟩ => by
      obtain ⟨i, l⟩ := z
      simp only at e1 e2
      subst e1 e2
      left
      refine ⟨(((k + 1 : Nat) : Int), List.replicate k 1 ++ [1]), ?_, rfl, ?_⟩
      · show spec_VtabNew_l0 (n : Int) (k : Int) _ = _
        unfold spec_VtabNew_l0
        rw [dlt (by omega), cond_true, app_small (by simp; omega), Option.bind_some, w64_nat (by omega)]
      · show List.replicate k 1 ++ [1] = _
        rw [← List.replicate_succ'])
    (fun z ⟨e1, e2⟩ => by
      obtain ⟨i, l⟩ := z
      simp only at e1 e2
      subst e1 e2
      refine ⟨_, ?_, rfl⟩
      show spec_VtabNew_l0 (n : Int) _ _ = _
      unfold spec_VtabNew_l0
      rw [dnlt (by omega), cond_false]) (x := (0, [])) ⟨rfl, rfl⟩
  unfold spec_VtabNew
  rw [inS, Option.bind_some, hin, Bool.not_true, cond_false, ht, Option.bind_some, hd, Option.bind_some, ht2]
theorem newVT {n : Nat} (h1 : 1 ≤ n) (h6 : n ≤ 6) : VT ([(1, pTop (n : Int), pTop (n : Int))], List.replicate n 1) n := by
  have hin : pIn (n : Int) 1 6 = true := by unfold pIn; rw [decide_eq_true (by omega), decide_eq_true (by omega)]; rfl
  have ht := topLe hin
  have hrow : impl_RowAt ([(1, pTop (n : Int), pTop (n : Int))], List.replicate n 1) 1 = some 0 := by
    unfold impl_RowAt
    rw [loop_of (k := 1) (b := .inr 0) (by rfl)]
    rfl
  have hb : (bclr .i64 (pTop (n : Int)) (pTop (n : Int)) != 0) = false := by
    rcases range6 hin with h | h | h | h | h | h <;> rw [h] <;> decide
  refine ⟨?_, fun r hr => ?_⟩
  · unfold pVtab
    rw [hin]
    show (!(!true || (((List.replicate n (1 : Int)).length : Int) != (n : Int) || decide ((1 : Int) > 6))) && (!(List.range 1).any _ && !(List.range (List.replicate n (1 : Int)).length).any _)) = true
    rw [List.length_replicate]
    have e1 : (((n : Int)) != (n : Int)) = false := by simp
    rw [e1]
    have e2 : (List.range 1).any (bRow ([(1, pTop (n : Int), pTop (n : Int))], List.replicate n 1) (n : Int)) = false := by
      show (bRow ([(1, pTop (n : Int), pTop (n : Int))], List.replicate n 1) (n : Int) 0 || false) = false
      unfold bRow
      show ((!(pIn 1 1 99) || ((decide (0 < 0) && _) || (!(pIn (pTop (n : Int)) 0 (pTop (n : Int))) || (bclr .i64 (pTop (n : Int)) (pTop (n : Int)) != 0)))) || false) = false
      rw [hb]
      have : pIn (pTop (n : Int)) 0 (pTop (n : Int)) = true := by unfold pIn; rw [decide_eq_true (by omega), decide_eq_true (by omega)]; rfl
      rw [this]; rfl
    rw [e2]
    have e3 : (List.range n).any (bPvid ([(1, pTop (n : Int), pTop (n : Int))], List.replicate n 1)) = false := by
      apply Bool.eq_false_iff.2
      intro h
      obtain ⟨k, hk, hx⟩ := List.any_eq_true.1 h
      have hk := List.mem_range.1 hk
      unfold bPvid at hx
      have : (List.replicate n (1 : Int))[k]? = some 1 := by rw [List.getElem?_replicate, if_pos hk]
      simp only [this, hrow] at hx
      revert hx; decide
    rw [e3]; rfl
  · have hr : r ∈ [((1 : Int), pTop (n : Int), pTop (n : Int))] := hr
    simp at hr
    subst hr
    exact ⟨by show _ ≤ pTop (n : Int); omega, by show pTop (n : Int) ≤ _; omega⟩
theorem drawV {c : L1Cur} (h : CW c) {n : Nat} (h1 : 1 ≤ n) (h6 : n ≤ 6) : ∃ c' v, spec_l9Draw c (n : Int) = some (c', v) ∧ CW c' ∧ VT v n := by
  unfold spec_l9Draw
  obtain ⟨c0, m, e0, w0, hm⟩ := belowN h (n := 6) (by decide)
  rw [newV h1 h6, Option.bind_some]
  have e0' : spec_l1Below c 6 = some (c0, (m : Int)) := e0
  rw [e0', Option.bind_some]
  obtain ⟨d, hd, g1, g2⟩ := loop_inv (step := fun z : Int × List Int × Int × Int × List Vrow × List Int => spec_l9Draw_l0 (n : Int) z.1 z.2.1 z.2.2.1 z.2.2.2.1 z.2.2.2.2.1 z.2.2.2.2.2) (fun k z => z.1 = (m : Int) - (k : Int) ∧ CW (z.2.1, z.2.2.1, z.2.2.2.1) ∧ VT z.2.2.2.2 n) m (fun d => CW (d.1, d.2.1, d.2.2.1) ∧ VT d.2.2.2 n)
    (fun k z hk ⟨a1, a2, a3⟩ => by
      obtain ⟨i, x, y, s, v⟩ := z
      simp only at a1 a2 a3
      left
      show ∃ y', spec_l9Draw_l0 (n : Int) i x y s v.1 v.2 = _ ∧ _
      unfold spec_l9Draw_l0
      have hi : decide (i > 0) = true := decide_eq_true (by omega)
      have hw : w64 (i - 1) = (m : Int) - ((k + 1 : Nat) : Int) := by rw [w64_id (by omega) (by omega)]; omega
      obtain ⟨c1, r1, e1, w1, _⟩ := belowD a2 4
      rw [hi, cond_true, e1, Option.bind_some, hw]
      show ∃ y', cond (r1 == 0) _ _ = _ ∧ _
      cases r1 == 0 with
      | true =>
        obtain ⟨c2, r2, e2, w2, _⟩ := belowD w1 (n : Int)
        obtain ⟨c3, r3, e3, w3, _⟩ := belowD w2 3
        obtain ⟨v', ok, e4, g4⟩ := pvidV a3 r2 (w64 (1 + r3))
        have e4' : spec_SetPvid (v.1, v.2) r2 (w64 (1 + r3)) = some (v', ok) := e4
        rw [cond_true, e2, Option.bind_some, e3, Option.bind_some, e4', Option.bind_some]
        exact ⟨_, rfl, rfl, w3, g4⟩
      | false =>
        rw [cond_false]
        show ∃ y', cond (r1 == 1) _ _ = _ ∧ _
        cases r1 == 1 with
        | true =>
          obtain ⟨c2, r2, e2, w2, _⟩ := belowD w1 2
          obtain ⟨v', ok, e4, g4⟩ := dropV a3 (w64 (2 + r2))
          have e4' : spec_DropRow (v.1, v.2) (w64 (2 + r2)) = some (v', ok) := e4
          rw [cond_true, e2, Option.bind_some, e4', Option.bind_some]
          exact ⟨_, rfl, rfl, w2, g4⟩
        | false =>
          obtain ⟨c2, r2, e2, w2, hr2⟩ := row2D w1 h1 h6
          obtain ⟨v', ok, e4, g4⟩ := putV a3 hr2
          have e4' : spec_PutRow (v.1, v.2) r2 = some (v', ok) := e4
          rw [cond_false, e2, Option.bind_some, e4', Option.bind_some]
          exact ⟨_, rfl, rfl, w2, g4⟩)
    (fun z ⟨a1, a2, a3⟩ => by
      obtain ⟨i, x, y, s, v⟩ := z
      simp only at a1 a2 a3
      refine ⟨(x, y, s, v), ?_, a2, a3⟩
      show spec_l9Draw_l0 (n : Int) i x y s v.1 v.2 = _
      unfold spec_l9Draw_l0
      have hi : decide (i > 0) = false := decide_eq_false (by omega)
      rw [hi, cond_false]) (x := ((m : Int), c0.1, c0.2.1, c0.2.2, [(1, pTop (n : Int), pTop (n : Int))], List.replicate n 1)) ⟨by simp, w0, newVT h1 h6⟩
  rw [hd, Option.bind_some]
  exact ⟨_, _, rfl, g1, g2⟩
/-! ### drawn ports -/
theorem vecD {c : L1Cur} (h : CW c) : ∃ c' v, spec_l7Draw c = some (c', v) ∧ CW c' ∧ pVec v = true := by
  obtain ⟨c1, k1, e1, w1, b1⟩ := belowN h (n := 5) (by decide)
  obtain ⟨c2, x2, e2, w2, b2⟩ := intD w1 (l := [0, 1, 2, 5, 10, 100]) (by decide)
  obtain ⟨c3, x3, e3, w3, b3⟩ := intD w2 (l := [0, 1, 2, 9, 10]) (by decide)
  obtain ⟨c4, k4, e4, w4, b4⟩ := belowN w3 (n := 5) (by decide)
  obtain ⟨c5, k5, e5, w5, b5⟩ := belowN w4 (n := 4) (by decide)
  have e1' : spec_l1Below c 5 = some (c1, (k1 : Int)) := e1
  have e4' : spec_l1Below c3 5 = some (c4, (k4 : Int)) := e4
  have e5' : spec_l1Below c4 4 = some (c5, (k5 : Int)) := e5
  unfold spec_l7Draw
  rw [e1', Option.bind_some, e2, Option.bind_some, e3, Option.bind_some, e4', Option.bind_some, e5', Option.bind_some]
  refine ⟨_, _, rfl, w5, ?_⟩
  show pVec (w64 (1 + (k1 : Int)), x2, x3, w64 (1 + (k4 : Int)), (k5 : Int)) = true
  rw [w64_id (by omega) (by omega), w64_id (by omega) (by omega)]
  have i1 : pIn (1 + (k1 : Int)) 1 99 = true := by unfold pIn; rw [decide_eq_true (by omega), decide_eq_true (by omega)]; rfl
  have i4 : pIn (1 + (k4 : Int)) 1 99 = true := by unfold pIn; rw [decide_eq_true (by omega), decide_eq_true (by omega)]; rfl
  have i5 : pIn (k5 : Int) 0 7 = true := by unfold pIn; rw [decide_eq_true (by omega), decide_eq_true (by omega)]; rfl
  have i2 : pIn x2 0 100000 = true := by
    have : ∀ x ∈ ([0, 1, 2, 5, 10, 100] : List Int), pIn x 0 100000 = true := by decide
    exact this x2 b2
  have i3 : pIn x3 0 10 = true := by
    have : ∀ x ∈ ([0, 1, 2, 9, 10] : List Int), pIn x 0 10 = true := by decide
    exact this x3 b3
  unfold pVec
  rw [i1, i2, i3, i4, i5]; rfl
structure PL (l : List Pt) : Prop where
  p : ∀ x ∈ l, pPt x = true
theorem portsD {c : L1Cur} (h : CW c) {n : Nat} (h6 : n ≤ 6) : ∃ c' l, spec_l10Draw c (n : Int) = some (c', l) ∧ CW c' ∧ l.length = n ∧ ∀ x ∈ l, pPt x = true := by
  unfold spec_l10Draw
  obtain ⟨d, hd, g1, g2, g3⟩ := loop_inv (step := fun z : Int × List Int × Int × Int × List Pt => spec_l10Draw_l0 (n : Int) z.1 z.2.1 z.2.2.1 z.2.2.2.1 z.2.2.2.2) (fun k z => z.1 = (k : Int) ∧ CW (z.2.1, z.2.2.1, z.2.2.2.1) ∧ z.2.2.2.2.length = k ∧ ∀ x ∈ z.2.2.2.2, pPt x = true) n (fun d => CW (d.1, d.2.1, d.2.2.1) ∧ d.2.2.2.length = n ∧ ∀ x ∈ d.2.2.2, pPt x = true)
    (fun k z hk ⟨a1, a2, a3, a4⟩ => by
      obtain ⟨i, x, y, s, l⟩ := z
      simp only at a1 a2 a3 a4
      subst a1
      left
      show ∃ y', spec_l10Draw_l0 (n : Int) (k : Int) x y s l = _ ∧ _
      unfold spec_l10Draw_l0
      obtain ⟨c1, up, e1, w1⟩ := onceD a2 4
      obtain ⟨c2, cost, e2, w2, b2⟩ := intD w1 (l := [1, 1, 2, 5, 10]) (by decide)
      have hc : pIn cost 1 1000 = true := by
        have : ∀ x ∈ ([1, 1, 2, 5, 10] : List Int), pIn x 1 1000 = true := by decide
        exact this cost b2
      have ha : ∀ q : Pt, app l [q] = some (l ++ [q]) := fun q => app_small (by show l.length + 1 ≤ _; omega)
      have hin : ∀ q : Pt, pPt q = true → (l ++ [q]).length = k + 1 ∧ ∀ x ∈ l ++ [q], pPt x = true := fun q hq => ⟨by simp; omega, fun x hx => by
        simp at hx
        rcases hx with hx | rfl
        · exact a4 x hx
        · exact hq⟩
      rw [dlt (by omega), cond_true, e1, Option.bind_some, e2, Option.bind_some, w64_nat (by omega)]
      show ∃ y', cond (!up) _ _ = _ ∧ _
      cases up with
      | true =>
        simp only [ha, Bool.not_true, cond_false, Option.bind_some]
        obtain ⟨q1, q2⟩ := hin (false, cost, false, 0, 0, 0, 0, 0) (by unfold pPt; rw [hc]; rfl)
        exact ⟨_, rfl, rfl, w2, q1, q2⟩
      | false =>
        obtain ⟨c3, has, e3, w3⟩ := onceD w2 4
        rw [Bool.not_false, cond_true, e3, Option.bind_some]
        show ∃ y', cond (!has) _ _ = _ ∧ _
        cases has with
        | true =>
          simp only [ha, Bool.not_true, cond_false, Option.bind_some]
          obtain ⟨q1, q2⟩ := hin (true, cost, false, 0, 0, 0, 0, 0) (by unfold pPt; rw [hc]; rfl)
          exact ⟨_, rfl, rfl, w3, q1, q2⟩
        | false =>
          obtain ⟨c4, v, e4, w4, hv⟩ := vecD w3
          simp only [ha, Bool.not_false, cond_true, Option.bind_some, e4]
          obtain ⟨q1, q2⟩ := hin (true, cost, true, v.1, v.2.1, v.2.2.1, v.2.2.2.1, v.2.2.2.2) (by unfold pPt; rw [hc]; exact hv)
          exact ⟨_, rfl, rfl, w4, q1, q2⟩)
    (fun z ⟨a1, a2, a3, a4⟩ => by
      obtain ⟨i, x, y, s, l⟩ := z
      simp only at a1 a2 a3 a4
      subst a1
      refine ⟨(x, y, s, l), ?_, a2, a3, a4⟩
      show spec_l10Draw_l0 (n : Int) _ x y s l = _
      unfold spec_l10Draw_l0
      rw [dnlt (by omega), cond_false]) (x := (0, c.1, c.2.1, c.2.2, [])) ⟨rfl, h, rfl, fun x hx => absurd hx List.not_mem_nil⟩
  rw [hd, Option.bind_some]
  exact ⟨_, _, rfl, g1, g2, g3⟩
end Go.V.W
