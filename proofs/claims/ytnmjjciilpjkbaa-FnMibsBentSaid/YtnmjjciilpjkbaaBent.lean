/- The law FnMibsBent: part of the proof that for every input it returns true. No condition. -/
import Derived.Test.YtnmjjciilpjkbaaFnMibsBentB
namespace Go.V.W
set_option linter.unusedVariables false
set_option linter.unusedSimpArgs false
/-! ### bent bridges are drawn, too -/
theorem ageF {l : List Fent} (h : FB l) : ∃ y, spec_AgeAll l = some y ∧ FB y := by
  have hn := h.n
  have hlt : ∀ i j (hi : i < l.length) (hj : j < l.length), i < j → lt l[i] l[j] := List.pairwise_iff_getElem.1 h.o
  obtain ⟨d, hd, g1, g2, g3⟩ := loop_inv (step := fun z : Int × List Fent => spec_AgeAll_l0 l z.1 z.2)
    (fun k z => z.1 = (k : Int) ∧ (∀ x ∈ z.2, pFent x = true) ∧ z.2.Pairwise lt ∧ z.2.length ≤ k ∧ ∀ x ∈ z.2, ∀ j (hj : j < l.length), k ≤ j → lt x l[j]) l.length
    (fun d => (∀ x ∈ d, pFent x = true) ∧ d.Pairwise lt ∧ d.length ≤ 12)
    (fun k z hk ⟨e1, e2, e3, e4, e5⟩ => by
      obtain ⟨i, b⟩ := z
      simp only at e1 e2 e3 e4 e5
      subst e1
      left
      have hf : pFent l[k] = true := h.e _ (List.getElem_mem hk)
      have hgo : ∀ y : Fent, pFent y = true → y.1 = l[k].1 → y.2.1 = l[k].2.1 → (∀ x ∈ b ++ [y], pFent x = true) ∧ (b ++ [y]).Pairwise lt ∧ (b ++ [y]).length ≤ k + 1 ∧ ∀ x ∈ b ++ [y], ∀ j (hj : j < l.length), k + 1 ≤ j → lt x l[j] := by
        intro y hy q1 q2
        refine ⟨fun x hx => ?_, pair_snoc e3 fun x hx => ?_, by rw [List.length_append]; show b.length + 1 ≤ _; omega, fun x hx j hj hkj => ?_⟩
        · rcases List.mem_append.1 hx with hx | hx
          · exact e2 x hx
          · simp at hx; subst hx; exact hy
        · have := e5 x hx k hk (Nat.le_refl _)
          unfold lt at this ⊢; omega
        · rcases List.mem_append.1 hx with hx | hx
          · exact e5 x hx j hj (by omega)
          · simp at hx; subst hx
            have := hlt k j hk hj (by omega)
            unfold lt at this ⊢; omega
      have ha : ∀ y : Fent, app b [y] = some (b ++ [y]) := fun y => app_small (by show b.length + 1 ≤ _; omega)
      show ∃ y, spec_AgeAll_l0 l (k : Int) b = _ ∧ _
      unfold spec_AgeAll_l0
      rw [dlt (by omega), cond_true, at_nat hk, Option.bind_some, ha, ha, Option.bind_some, Option.bind_some, w64_nat (by omega)]
      cases hs : l[k].2.2.2.2 with
      | true => exact ⟨_, rfl, rfl, hgo _ hf rfl rfl⟩
      | false =>
        rw [cond_false]
        by_cases ha4 : l[k].2.2.2.1 < 4
        · rw [dlt ha4, cond_true]
          refine ⟨_, rfl, rfl, hgo _ ?_ rfl rfl⟩
          unfold pFent at hf ⊢
          simp only [Bool.and_eq_true] at hf
          obtain ⟨f1, f2, f3, f4, f5⟩ := hf
          have f4' := f4
          unfold pIn at f4'
          simp only [Bool.and_eq_true, decide_eq_true_eq] at f4'
          show (pIn l[k].1 1 99 && (pIn l[k].2.1 1 9999 && (pIn l[k].2.2.1 0 7 && (pIn (w64 (l[k].2.2.2.1 + 1)) 0 4 && (!false || _))))) = true
          rw [f1, f2, f3, w64_id (by omega) (by omega)]
          have : pIn (l[k].2.2.2.1 + 1) 0 4 = true := by unfold pIn; rw [decide_eq_true (by omega), decide_eq_true (by omega)]; rfl
          rw [this]; rfl
        · rw [dnlt ha4, cond_false]
          exact ⟨_, rfl, rfl, e2, e3, by show b.length ≤ _; omega, fun x hx j hj hkj => e5 x hx j hj (by omega)⟩)
    (fun z ⟨e1, e2, e3, e4, e5⟩ => by
      obtain ⟨i, b⟩ := z
      simp only at e1 e2 e3 e4 e5
      subst e1
      refine ⟨b, ?_, e2, e3, by omega⟩
      show spec_AgeAll_l0 l _ b = _
      unfold spec_AgeAll_l0
      rw [dnlt (by omega), cond_false]) (x := (0, [])) ⟨rfl, fun x hx => absurd hx List.not_mem_nil, List.Pairwise.nil, Nat.le_refl _, fun x hx => absurd hx List.not_mem_nil⟩
  unfold spec_AgeAll
  rw [hd, Option.bind_some]
  exact ⟨_, rfl, g1, g2, g3⟩
theorem nilF : FB ([] : List Fent) := ⟨fun x hx => absurd hx List.not_mem_nil, List.Pairwise.nil, by simp⟩
theorem fdbD {c : L1Cur} (h : CW c) : ∃ c' l, spec_l8Draw c = some (c', l) ∧ CW c' ∧ FB l := by
  obtain ⟨c0, m, e0, w0, hm⟩ := belowN h (n := 10) (by decide)
  have e0' : spec_l1Below c 10 = some (c0, (m : Int)) := e0
  obtain ⟨d, hd, g1, g2⟩ := loop_inv (step := fun z : Int × List Int × Int × Int × List Fent => spec_l8Draw_l0 z.1 z.2.1 z.2.2.1 z.2.2.2.1 z.2.2.2.2) (fun k z => z.1 = (m : Int) - (k : Int) ∧ CW (z.2.1, z.2.2.1, z.2.2.2.1) ∧ FB z.2.2.2.2) m (fun d => CW (d.1, d.2.1, d.2.2.1) ∧ FB d.2.2.2)
    (fun k z hk ⟨a1, a2, a3⟩ => by
      obtain ⟨i, x, y, s, l⟩ := z
      simp only at a1 a2 a3
      left
      show ∃ y', spec_l8Draw_l0 i x y s l = _ ∧ _
      unfold spec_l8Draw_l0
      have hi : decide (i > 0) = true := decide_eq_true (by omega)
      have hw : w64 (i - 1) = (m : Int) - ((k + 1 : Nat) : Int) := by rw [w64_id (by omega) (by omega)]; omega
      obtain ⟨c1, r1, e1, w1, _⟩ := belowD a2 6
      rw [hi, cond_true, e1, Option.bind_some, hw]
      show ∃ y', cond (r1 == 0) _ (cond (r1 == 1) _ _) = _ ∧ _
      cases r1 == 0 with
      | true =>
        obtain ⟨c2, r2, e2, w2, _⟩ := belowD w1 3
        obtain ⟨c3, r3, e3, w3⟩ := macD w2
        obtain ⟨c4, r4, e4, w4, _⟩ := belowD w3 4
        obtain ⟨y', ok, e5, g5⟩ := staticF a3 (w64 (1 + r2)) r3 r4
        rw [cond_true, e2, Option.bind_some, e3, Option.bind_some, e4, Option.bind_some, e5, Option.bind_some]
        exact ⟨_, rfl, rfl, w4, g5⟩
      | false =>
      cases r1 == 1 with
      | true =>
        obtain ⟨y', e5, g5⟩ := ageF a3
        rw [cond_false, cond_true, e5, Option.bind_some]
        exact ⟨_, rfl, rfl, w1, g5⟩
      | false =>
        obtain ⟨c2, r2, e2, w2, _⟩ := belowD w1 3
        obtain ⟨c3, r3, e3, w3⟩ := macD w2
        obtain ⟨c4, r4, e4, w4, _⟩ := belowD w3 3
        obtain ⟨c5, r5, e5, w5, _⟩ := belowD w4 4
        obtain ⟨y', e6, g6⟩ := learnF a3 (w64 (1 + r2)) (w64 (r3 + r4)) r5
        rw [cond_false, cond_false, e2, Option.bind_some, e3, Option.bind_some, e4, Option.bind_some, e5, Option.bind_some, e6, Option.bind_some]
        exact ⟨_, rfl, rfl, w5, g6⟩)
    (fun z ⟨a1, a2, a3⟩ => by
      obtain ⟨i, x, y, s, l⟩ := z
      simp only at a1 a2 a3
      refine ⟨(x, y, s, l), ?_, a2, a3⟩
      show spec_l8Draw_l0 i x y s l = _
      unfold spec_l8Draw_l0
      have hi : decide (i > 0) = false := decide_eq_false (by omega)
      rw [hi, cond_false]) (x := ((m : Int), c0.1, c0.2.1, c0.2.2, [])) ⟨by simp, w0, nilF⟩
  unfold spec_l8Draw
  rw [e0', Option.bind_some]
  show ∃ c' l, ((loop _ ((m : Int), c0.1, c0.2.1, c0.2.2, [])).bind _) = _ ∧ _
  rw [hd, Option.bind_some]
  exact ⟨_, _, rfl, g1, g2⟩
theorem fdbA {c : L1Cur} (h : CW c) : ∃ c' l, spec_l8Any c = some (c', l) ∧ CW c' ∧ l.length ≤ 100 := by
  obtain ⟨c1, l, e1, w1, g1⟩ := fdbD h
  have hn := g1.n
  obtain ⟨c2, r, e2, w2, _⟩ := belowD w1 12
  unfold spec_l8Any
  rw [e1, Option.bind_some]
  show ∃ c' l', ((spec_l1Below c1 12).bind _) = _ ∧ _
  rw [e2, Option.bind_some]
  show ∃ c' l', cond (r == 0) _ (cond (r == 1) _ _) = _ ∧ _
  cases r == 0 with
  | true =>
    obtain ⟨c3, x3, e3, w3, _⟩ := intD w2 (l := [0, 1, 99, 100]) (by decide)
    obtain ⟨c4, x4, e4, w4, _⟩ := intD w3 (l := [0, 1, 9999]) (by decide)
    obtain ⟨c5, x5, e5, w5, _⟩ := intD w4 (l := [(-1), 7, 8]) (by decide)
    obtain ⟨c6, x6, e6, w6, _⟩ := intD w5 (l := [(-1), 4, 5]) (by decide)
    rw [cond_true, e3, Option.bind_some, e4, Option.bind_some, e5, Option.bind_some, e6, Option.bind_some]
    show ∃ c' l', ((app l [_]).bind _) = _ ∧ _
    rw [app_small (by show l.length + 1 ≤ _; omega), Option.bind_some]
    exact ⟨_, _, rfl, w6, by rw [List.length_append]; show l.length + 1 ≤ 100; omega⟩
  | false =>
  cases r == 1 with
  | true =>
    rw [cond_false, cond_true]
    obtain ⟨d, hd, g1, g2⟩ := loop_inv (step := fun z : Int × List Int × Int × Int × List Fent => spec_l8Any_l1 z.1 z.2.1 z.2.2.1 z.2.2.2.1 z.2.2.2.2) (fun k z => z.1 = (k : Int) ∧ CW (z.2.1, z.2.2.1, z.2.2.2.1) ∧ z.2.2.2.2.length ≤ 12 + k) 13 (fun d => CW (d.1, d.2.1, d.2.2.1) ∧ d.2.2.2.length ≤ 100)
      (fun k z hk ⟨a1, a2, a3⟩ => by
        obtain ⟨i, x, y, s, l⟩ := z
        simp only at a1 a2 a3
        subst a1
        obtain ⟨c3, q, e3, w3, hq⟩ := belowN a2 (n := 3) (by decide)
        have e3' : spec_l1Below (x, y, s) 3 = some (c3, (q : Int)) := e3
        have hs : spec_l8Any_l1 (k : Int) x y s l = cond (decide ((k : Int) < w64 (11 + (q : Int)))) (some (.inl (((k + 1 : Nat) : Int), c3.1, c3.2.1, c3.2.2, l ++ [(50, w64 (100 + (k : Int)), 1, 0, false)]))) (some (.inr (c3.1, c3.2.1, c3.2.2, l))) := by
          unfold spec_l8Any_l1
          rw [e3', Option.bind_some, app_small (by show l.length + 1 ≤ _; omega), Option.bind_some, w64_nat (by omega)]
        show (∃ y', spec_l8Any_l1 (k : Int) x y s l = _ ∧ _) ∨ (∃ v, spec_l8Any_l1 (k : Int) x y s l = _ ∧ _)
        rw [hs]
        cases decide ((k : Int) < w64 (11 + (q : Int))) with
        | true => exact .inl ⟨_, rfl, rfl, w3, by show (l ++ [_]).length ≤ _; rw [List.length_append]; show l.length + 1 ≤ _; omega⟩
        | false => exact .inr ⟨_, rfl, w3, by show l.length ≤ 100; omega⟩)
      (fun z ⟨a1, a2, a3⟩ => by
        obtain ⟨i, x, y, s, l⟩ := z
        simp only at a1 a2 a3
        subst a1
        obtain ⟨c3, q, e3, w3, hq⟩ := belowN a2 (n := 3) (by decide)
        have e3' : spec_l1Below (x, y, s) 3 = some (c3, (q : Int)) := e3
        refine ⟨(c3.1, c3.2.1, c3.2.2, l), ?_, w3, by show l.length ≤ 100; omega⟩
        show spec_l8Any_l1 ((13 : Nat) : Int) x y s l = _
        unfold spec_l8Any_l1
        rw [e3', Option.bind_some, w64_id (n := 11 + (q : Int)) (by omega) (by omega), dnlt (by omega), cond_false]) (x := (0, c2.1, c2.2.1, c2.2.2, l)) ⟨rfl, w2, by show l.length ≤ 12 + 0; omega⟩
    show ∃ c' l', ((loop _ (0, c2.1, c2.2.1, c2.2.2, l)).bind _) = _ ∧ _
    rw [hd, Option.bind_some]
    exact ⟨_, _, rfl, g1, g2⟩
  | false => exact ⟨_, _, rfl, w2, by show l.length ≤ 100; omega⟩
theorem vecA {c : L1Cur} (h : CW c) : ∃ c' v, spec_l7Any c = some (c', v) ∧ CW c' := by
  obtain ⟨c1, v, e1, w1, _⟩ := vecD h
  obtain ⟨c2, r, e2, w2, _⟩ := belowD w1 12
  unfold spec_l7Any
  rw [e1, Option.bind_some]
  show ∃ c' l', ((spec_l1Below c1 12).bind _) = _ ∧ _
  rw [e2, Option.bind_some]
  show ∃ c' l', cond (r == 0) _ (cond (r == 1) _ (cond (r == 2) _ (cond (r == 3) _ _))) = _ ∧ _
  cases r == 0 with
  | true =>
    obtain ⟨c3, x3, e3, w3, _⟩ := intD w2 (l := [0, 99, 100]) (by decide)
    rw [cond_true, e3, Option.bind_some]; exact ⟨_, _, rfl, w3⟩
  | false =>
  cases r == 1 with
  | true =>
    obtain ⟨c3, x3, e3, w3, _⟩ := intD w2 (l := [(-1), 99999, 100000, 100001]) (by decide)
    rw [cond_false, cond_true, e3, Option.bind_some]; exact ⟨_, _, rfl, w3⟩
  | false =>
  cases r == 2 with
  | true =>
    obtain ⟨c3, x3, e3, w3, _⟩ := intD w2 (l := [(-1), 11]) (by decide)
    rw [cond_false, cond_false, cond_true, e3, Option.bind_some]; exact ⟨_, _, rfl, w3⟩
  | false =>
  cases r == 3 with
  | true =>
    obtain ⟨c3, x3, e3, w3, _⟩ := intD w2 (l := [(-1), 7, 8]) (by decide)
    rw [cond_false, cond_false, cond_false, cond_true, e3, Option.bind_some]; exact ⟨_, _, rfl, w3⟩
  | false => exact ⟨_, _, rfl, w2⟩
theorem portsA {c : L1Cur} (h : CW c) : ∃ c' l, spec_l10Any c = some (c', l) ∧ CW c' ∧ l.length ≤ 100 := by
  obtain ⟨c1, p, e1, w1, b1⟩ := belowN h (n := 4) (by decide)
  have e1' : spec_l1Below c 4 = some (c1, (p : Int)) := e1
  have hp : w64 (1 + (p : Int)) = ((p + 1 : Nat) : Int) := by rw [w64_id (by omega) (by omega)]; omega
  obtain ⟨c2, l, e2, w2, l2, _⟩ := portsD w1 (n := p + 1) (by omega)
  obtain ⟨c3, r, e3, w3, _⟩ := belowD w2 12
  have h0 : 0 < l.length := by omega
  have hi : ix l.length 0 = some 0 := ix_nat h0
  have hg : l[0]? = some l[0] := List.getElem?_eq_getElem h0
  unfold spec_l10Any
  rw [e1', Option.bind_some]
  show ∃ c' l', ((spec_l10Draw c1 (w64 (1 + (p : Int)))).bind _) = _ ∧ _
  rw [hp, e2, Option.bind_some]
  show ∃ c' l', ((spec_l1Below c2 12).bind _) = _ ∧ _
  rw [e3, Option.bind_some]
  show ∃ c' l', cond (r == 0) _ (cond (r == 1) _ (cond (r == 2) _ _)) = _ ∧ _
  cases r == 0 with
  | true =>
    obtain ⟨c4, v, e4, w4⟩ := vecA w3
    rw [cond_true, e4, Option.bind_some]
    show ∃ c' l', ((ix l.length 0).bind _) = _ ∧ _
    rw [hi, Option.bind_some]
    show ∃ c' l', ((l[0]?).bind _) = _ ∧ _
    rw [hg, Option.bind_some]
    exact ⟨_, _, rfl, w4, by rw [List.length_set]; show l.length ≤ 100; omega⟩
  | false =>
  cases r == 1 with
  | true =>
    obtain ⟨c4, x4, e4, w4, _⟩ := intD w3 (l := [0, 1000, 1001]) (by decide)
    rw [cond_false, cond_true, e4, Option.bind_some]
    show ∃ c' l', ((ix l.length 0).bind _) = _ ∧ _
    rw [hi, Option.bind_some]
    show ∃ c' l', ((l[0]?).bind _) = _ ∧ _
    rw [hg, Option.bind_some]
    exact ⟨_, _, rfl, w4, by rw [List.length_set]; show l.length ≤ 100; omega⟩
  | false =>
  cases r == 2 with
  | true =>
    rw [cond_false, cond_false, cond_true]
    show ∃ c' l', ((ix l.length 0).bind _) = _ ∧ _
    rw [hi, Option.bind_some]
    show ∃ c' l', ((l[0]?).bind _) = _ ∧ _
    rw [hg, Option.bind_some]
    exact ⟨_, _, rfl, w3, by rw [List.length_set]; show l.length ≤ 100; omega⟩
  | false => exact ⟨_, _, rfl, w3, by show l.length ≤ 100; omega⟩
end Go.V.W
