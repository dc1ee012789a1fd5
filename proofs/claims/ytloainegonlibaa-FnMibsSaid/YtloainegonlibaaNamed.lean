/- The law FnMibs: part of the proof that for every input it returns true. No condition. -/
import Derived.Test.YtloainegonlibaaMibZ
namespace Go.V.W
set_option linter.unusedVariables false
set_option linter.unusedSimpArgs false
/-! ### a drawn name -/
theorem oidD {c : L1Cur} (h : CW c) : ∃ c' o, spec_l2Draw c = some (c', o) ∧ CW c' ∧ Nm o := by
  obtain ⟨c0, m, e0, w0, hm⟩ := belowN h (n := 6) (by decide)
  have e0' : spec_l1Below c 6 = some (c0, (m : Int)) := e0
  obtain ⟨d, hd, g1, g2, g3⟩ := loop_inv (step := fun z : Int × List Int × Int × Int × List Int => spec_l2Draw_l0 z.1 z.2.1 z.2.2.1 z.2.2.2.1 z.2.2.2.2) (fun k z => z.1 = ((m + 1 : Nat) : Int) - (k : Int) ∧ CW (z.2.1, z.2.2.1, z.2.2.2.1) ∧ z.2.2.2.2.length = k ∧ ∀ x ∈ z.2.2.2.2, pIn x 0 100000 = true) (m + 1) (fun d => CW (d.1, d.2.1, d.2.2.1) ∧ d.2.2.2.length = m + 1 ∧ ∀ x ∈ d.2.2.2, pIn x 0 100000 = true)
    (fun k z hk ⟨a1, a2, a3, a4⟩ => by
      obtain ⟨i, x, y, s, l⟩ := z
      simp only at a1 a2 a3 a4
      left
      show ∃ y', spec_l2Draw_l0 i x y s l = _ ∧ _
      unfold spec_l2Draw_l0
      have hi : decide (i > 0) = true := decide_eq_true (by omega)
      have hw : w64 (i - 1) = ((m + 1 : Nat) : Int) - ((k + 1 : Nat) : Int) := by rw [w64_id (by omega) (by omega)]; omega
      obtain ⟨c1, r1, e1, w1, b1⟩ := intD a2 (l := [0, 1, 2, 3, 127, 128, 16384, 100000]) (by decide)
      have hr : pIn r1 0 100000 = true := by
        have : ∀ x ∈ ([0, 1, 2, 3, 127, 128, 16384, 100000] : List Int), pIn x 0 100000 = true := by decide
        exact this r1 b1
      rw [hi, cond_true, e1, Option.bind_some]
      show ∃ y', ((app l [r1]).bind _) = _ ∧ _
      rw [app_small (by show l.length + 1 ≤ _; omega), Option.bind_some, hw]
      refine ⟨_, rfl, rfl, w1, by show (l ++ [r1]).length = _; rw [List.length_append, a3]; rfl, fun x hx => ?_⟩
      have hx : x ∈ l ++ [r1] := hx
      simp at hx
      rcases hx with hx | rfl
      · exact a4 x hx
      · exact hr)
    (fun z ⟨a1, a2, a3, a4⟩ => by
      obtain ⟨i, x, y, s, l⟩ := z
      simp only at a1 a2 a3 a4
      refine ⟨(x, y, s, l), ?_, a2, a3, a4⟩
      show spec_l2Draw_l0 i x y s l = _
      unfold spec_l2Draw_l0
      have hi : decide (i > 0) = false := decide_eq_false (by omega)
      rw [hi, cond_false]) (x := (((m + 1 : Nat) : Int), c0.1, c0.2.1, c0.2.2, [])) ⟨by simp, w0, rfl, fun x hx => absurd hx List.not_mem_nil⟩
  have hw : w64 (1 + (m : Int)) = ((m + 1 : Nat) : Int) := by rw [w64_id (by omega) (by omega)]; omega
  unfold spec_l2Draw
  rw [e0', Option.bind_some]
  show ∃ c' o, ((loop _ (w64 (1 + (m : Int)), c0.1, c0.2.1, c0.2.2, [])).bind _) = _ ∧ _
  rw [hw, hd, Option.bind_some]
  exact ⟨_, _, rfl, g1, by omega, by omega, g3⟩
theorem nm4 {a : Int} (ha : 0 ≤ a ∧ a ≤ 100000) : Nm [1, 3, 1, a] := ⟨by simp, by simp, fun x hx => by
  simp only [List.mem_cons, List.not_mem_nil, or_false] at hx
  rcases hx with rfl | rfl | rfl | rfl
  · decide
  · decide
  · decide
  · exact inP ha.1 ha.2⟩
theorem nameX (l : List Int) (h : l.length ≤ 100) : spec_l17Name l = some ([1, 3, 1] ++ l) := by
  unfold spec_l17Name
  rw [app_small (by show 3 + l.length ≤ _; omega)]; rfl
theorem nameD {c : L1Cur} (h : CW c) {b : Bridge} (hb : BOk b) : ∃ c' o, spec_l17Oid c b = some (c', o) ∧ CW c' ∧ Nm o := by
  have hm : 5 ≤ (mib b).length := by rw [mib_len hb]; omega
  have hle := mib_le hb
  unfold spec_l17Oid
  rw [mib_same hb.w, mibX hb, Option.bind_some, decide_eq_true (show ((mib b).length : Int) > 0 by omega), cond_true]
  obtain ⟨c1, st, e1, w1⟩ := onceD h 4
  rw [e1, Option.bind_some]
  show ∃ c' o, cond (!st) _ _ = _ ∧ _
  cases st with
  | false =>
    obtain ⟨c2, k, e2, w2, hk⟩ := belowN w1 (n := (mib b).length) (by omega)
    have hn := (mib_each hb _ (List.getElem_mem hk)).1
    have h10 := hn.n10
    rw [Bool.not_false, cond_true, e2, Option.bind_some]
    show ∃ c' o, ((ix (mib b).length (k : Int)).bind _) = _ ∧ _
    rw [ix_nat hk, Option.bind_some, List.getElem?_eq_getElem hk, Option.bind_some, app_small (by show 0 + _ ≤ _; omega), Option.bind_some]
    exact ⟨_, _, rfl, w2, hn⟩
  | true =>
    obtain ⟨c2, r, e2, w2, _⟩ := belowD w1 8
    rw [Bool.not_true, cond_false, e2, Option.bind_some]
    show ∃ c' o, cond (r == 0) _ (cond (r == 1) _ (cond (r == 2) _ (cond (r == 3) _ (cond (r == 4) _ (cond (r == 5) _ (cond (r == 6) _ _)))))) = _ ∧ _
    cases r == 0 with
    | true => exact ⟨_, _, rfl, w2, ⟨by decide, by decide, by decide⟩⟩
    | false =>
    cases r == 1 with
    | true => exact ⟨_, _, rfl, w2, ⟨by decide, by decide, by decide⟩⟩
    | false =>
    cases r == 2 with
    | true => rw [nameX _ (by decide)]; exact ⟨_, _, rfl, w2, nm6 (by decide) (by decide) (by decide)⟩
    | false =>
    cases r == 3 with
    | true =>
      obtain ⟨c3, k, e3, w3, hk⟩ := belowN w2 (n := 9) (by decide)
      have e3' : spec_l1Below c2 9 = some (c3, (k : Int)) := e3
      show ∃ c' o, ((spec_l1Below c2 9).bind _) = _ ∧ _
      rw [e3', Option.bind_some, nameX _ (by simp), Option.bind_some]
      refine ⟨_, _, rfl, w3, ?_⟩
      show Nm [1, 3, 1, 3, 1, w64 (1 + (k : Int))]
      rw [w64_id (by omega) (by omega)]
      exact nm6 (by decide) (by decide) (by omega)
    | false =>
    cases r == 4 with
    | true => rw [nameX _ (by decide)]; exact ⟨_, _, rfl, w2, nm5 (by decide) (by decide)⟩
    | false =>
    cases r == 5 with
    | true => rw [nameX _ (by decide)]; exact ⟨_, _, rfl, w2, nm4 (by decide)⟩
    | false =>
    cases r == 6 with
    | true => rw [nameX _ (by decide)]; exact ⟨_, _, rfl, w2, nm7 (by decide) (by decide) (by decide) (by decide)⟩
    | false =>
      obtain ⟨c3, o, e3, w3, hn⟩ := oidD w2
      show ∃ c' o, ((spec_l2Draw c2).bind _) = _ ∧ _
      rw [e3, Option.bind_some]
      exact ⟨_, _, rfl, w3, hn⟩
theorem namedD {code : List Int} (h : code.length ≤ 1048576) : ∃ b o, spec_DrawNamed code = some (b, o) ∧ BOk b ∧ Nm o := by
  obtain ⟨c, e, w⟩ := newD h
  obtain ⟨c1, b, e1, w1, q1, q2⟩ := bridgeD w
  have hb := bok q1 q2
  obtain ⟨c2, o, e2, w2, hn⟩ := nameD w1 hb
  unfold spec_DrawNamed
  rw [e, Option.bind_some, e1, Option.bind_some]
  show ∃ b' o', ((spec_l17Oid c1 b).bind _) = _ ∧ _
  rw [e2, Option.bind_some]
  exact ⟨_, _, rfl, hb, hn⟩
end Go.V.W
