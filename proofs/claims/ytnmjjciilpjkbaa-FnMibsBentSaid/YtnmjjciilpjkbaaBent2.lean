/- The law FnMibsBent: part of the proof that for every input it returns true. No condition. -/
import Derived.Test.YtnmjjciilpjkbaaBent
namespace Go.V.W
set_option linter.unusedVariables false
set_option linter.unusedSimpArgs false
/-- Small tables, of numbers. -/
structure VS (v : Vtab) (n : Nat) : Prop where
  a : v.1.length ≤ n
  b : v.2.length ≤ 100
  r : ∀ r ∈ v.1, I64 r.2.2
theorem rowS' {v : Vtab} {n : Nat} (hn : n ≤ 1000) (hv : VS v n) {r : Vrow} (hr : I64 r.2.2) : ∃ y, spec_l9Row v r = some y ∧ VS y (2 * n + 1) := by
  have l4 := hv.a
  have l3 := hv.b
  obtain ⟨d, h1, h2, h3⟩ := loop_inv (step := fun z : Bool × Int × List Vrow => spec_l9Row_l0 v r z.1 z.2.1 z.2.2) (fun k z => z.2.1 = (k : Int) ∧ z.2.2.length ≤ 2 * k ∧ ∀ x ∈ z.2.2, I64 x.2.2) v.1.length (fun d => d.2.length ≤ 2 * n ∧ ∀ x ∈ d.2, I64 x.2.2)
    (fun k z hk ⟨e1, e2, e3⟩ => by
      obtain ⟨t, i, b⟩ := z
      simp only at e1 e2 e3
      subst e1
      left
      have hvk : I64 v.1[k].2.2 := hv.r _ (List.getElem_mem hk)
      show ∃ y, spec_l9Row_l0 v r t (k : Int) b = _ ∧ _
      unfold spec_l9Row_l0
      simp only [dlt (show (k : Int) < (v.1.length : Int) by omega), cond_true, at_nat hk, Option.bind_some, w64_nat (show k < 9223372036854775807 by omega), Int.not_lt]
      have ha : ∀ (xs : List Vrow) (y : Vrow), xs.length ≤ 10000 → app xs [y] = some (xs ++ [y]) := fun xs y h => app_small (by show xs.length + 1 ≤ _; omega)
      have key : ∀ (tt : Bool), ((cond (!t) (some (decide (v.1[k].1 ≥ r.1))) (some false)) = some tt → ∃ y : Bool × Int × List Vrow, (cond tt ((app b [r]).bind fun zs37 => cond (v.1[k].1 != r.1) ((app zs37 [v.1[k]]).bind fun zs56 => some (.inl (true, ((k + 1 : Nat) : Int), zs56))) (some (.inl (true, ((k + 1 : Nat) : Int), zs37)))) (cond (v.1[k].1 != r.1) ((app b [v.1[k]]).bind fun zs56_1 => some (.inl (t, ((k + 1 : Nat) : Int), zs56_1))) (some (.inl (t, ((k + 1 : Nat) : Int), b)))) : Option ((Bool × Int × List Vrow) ⊕ (Bool × List Vrow))) = some (.inl y) ∧ y.2.1 = ((k + 1 : Nat) : Int) ∧ y.2.2.length ≤ 2 * (k + 1) ∧ ∀ x ∈ y.2.2, I64 x.2.2) := by
        intro tt _
        cases tt with
        | true =>
          rw [cond_true, ha b r (by omega), Option.bind_some]
          cases v.1[k].1 != r.1 with
          | true =>
            rw [cond_true, ha (b ++ [r]) _ (by simp; omega), Option.bind_some]
            refine ⟨_, rfl, rfl, by simp; omega, fun x hx => ?_⟩
            simp at hx
            rcases hx with hx | rfl | rfl
            · exact e3 x hx
            · exact hr
            · exact hvk
          | false =>
            refine ⟨_, rfl, rfl, by simp; omega, fun x hx => ?_⟩
            simp at hx
            rcases hx with hx | rfl
            · exact e3 x hx
            · exact hr
        | false =>
          rw [cond_false]
          cases v.1[k].1 != r.1 with
          | true =>
            rw [cond_true, ha b _ (by omega), Option.bind_some]
            refine ⟨_, rfl, rfl, by simp; omega, fun x hx => ?_⟩
            simp at hx
            rcases hx with hx | rfl
            · exact e3 x hx
            · exact hvk
          | false => exact ⟨_, rfl, rfl, by show b.length ≤ _; omega, e3⟩
      cases ht : (cond (!t) (some (decide (v.1[k].1 ≥ r.1))) (some false)) with
      | none => cases t <;> cases ht
      | some tt =>
        rw [Option.bind_some]
        exact key tt ht)
    (fun z ⟨e1, e2, e3⟩ => by
      obtain ⟨t, i, b⟩ := z
      simp only at e1 e2 e3
      subst e1
      refine ⟨(t, b), ?_, by show b.length ≤ _; omega, e3⟩
      show spec_l9Row_l0 v r t _ b = _
      unfold spec_l9Row_l0
      rw [dnlt (by omega), cond_false]) (x := (false, 0, [])) ⟨rfl, by simp, fun x hx => absurd hx List.not_mem_nil⟩
  unfold spec_l9Row
  rw [app_small (by show 0 + v.2.length ≤ _; omega), Option.bind_some, h1, Option.bind_some, List.nil_append]
  cases d.1 with
  | true => exact ⟨_, rfl, by show d.2.length ≤ _; omega, l3, h3⟩
  | false =>
    rw [Bool.not_false, cond_true, app_small (by show d.2.length + 1 ≤ _; omega), Option.bind_some]
    refine ⟨_, rfl, by show (d.2 ++ [r]).length ≤ _; simp; omega, l3, fun x hx => ?_⟩
    have hx : x ∈ d.2 ++ [r] := hx
    simp at hx
    rcases hx with hx | rfl
    · exact h3 x hx
    · exact hr
theorem vtabA {c : L1Cur} (h : CW c) : ∃ c' v n, spec_l9Any c = some (c', v, n) ∧ CW c' ∧ VS v 1000 := by
  obtain ⟨c1, p, e1, w1, b1⟩ := belowN h (n := 4) (by decide)
  have e1' : spec_l1Below c 4 = some (c1, (p : Int)) := e1
  have hp : w64 (1 + (p : Int)) = ((p + 1 : Nat) : Int) := by rw [w64_id (by omega) (by omega)]; omega
  obtain ⟨c2, v, e2, w2, hv⟩ := drawV w1 (n := p + 1) (by omega) (by omega)
  obtain ⟨l1, l2, l3, l4⟩ := hv.len
  obtain ⟨c3, r, e3, w3, _⟩ := belowD w2 12
  unfold spec_l9Any
  rw [e1', Option.bind_some]
  show ∃ c' v' n', ((spec_l9Draw c1 (w64 (1 + (p : Int)))).bind _) = _ ∧ _
  rw [hp, e2, Option.bind_some]
  show ∃ c' v' n', ((spec_l1Below c2 12).bind _) = _ ∧ _
  rw [e3, Option.bind_some]
  show ∃ c' v' n', cond (r == 0) _ (cond (r == 1) _ (cond (r == 2) _ (cond (r == 3) _ _))) = _ ∧ _
  cases r == 0 with
  | true =>
    obtain ⟨c4, x4, e4, w4, _⟩ := intD w3 (l := [0, 1, 9, 100]) (by decide)
    obtain ⟨c5, x5, e5, w5, _⟩ := intD w4 (l := [(-1), 0, 1, 64]) (by decide)
    obtain ⟨c6, k6, e6, w6, b6⟩ := belowN w5 (n := 3) (by decide)
    have e6' : spec_l1Below c5 3 = some (c6, (k6 : Int)) := e6
    rw [cond_true, e4, Option.bind_some, e5, Option.bind_some]
    show ∃ c' v' n', ((spec_l1Below c5 3).bind _) = _ ∧ _
    rw [e6', Option.bind_some]
    show ∃ c' v' n', ((app v.1 [_]).bind _) = _ ∧ _
    rw [app_small (by show v.1.length + 1 ≤ _; omega), Option.bind_some]
    refine ⟨_, _, _, rfl, w6, by show (v.1 ++ [_]).length ≤ _; rw [List.length_append]; show v.1.length + 1 ≤ _; omega, by show v.2.length ≤ _; omega, fun x hx => ?_⟩
    have hx : x ∈ v.1 ++ [(x4, x5, (k6 : Int))] := hx
    simp at hx
    rcases hx with hx | rfl
    · exact hv.r x hx
    · show I64 (k6 : Int); exact ⟨by omega, by omega⟩
  | false =>
  cases r == 1 with
  | true =>
    obtain ⟨c4, x4, e4, w4, _⟩ := intD w3 (l := [0, 7]) (by decide)
    have h0 : 0 < v.2.length := by omega
    rw [cond_false, cond_true, e4, Option.bind_some]
    show ∃ c' v' n', ((ix v.2.length 0).bind _) = _ ∧ _
    rw [show ix v.2.length 0 = some 0 from ix_nat h0, Option.bind_some]
    show ∃ c' v' n', ((v.2[0]?).bind _) = _ ∧ _
    rw [List.getElem?_eq_getElem h0, Option.bind_some]
    exact ⟨_, _, _, rfl, w4, by show v.1.length ≤ _; omega, by show (v.2.set 0 x4).length ≤ _; rw [List.length_set]; omega, hv.r⟩
  | false =>
  cases r == 2 with
  | true =>
    obtain ⟨c4, x4, e4, w4, _⟩ := intD w3 (l := [0, 6, 7]) (by decide)
    rw [cond_false, cond_false, cond_true, e4, Option.bind_some]
    exact ⟨_, _, _, rfl, w4, by show v.1.length ≤ _; omega, by show v.2.length ≤ _; omega, hv.r⟩
  | false =>
  cases r == 3 with
  | true =>
    rw [cond_false, cond_false, cond_false, cond_true]
    have hpow : ∀ k, k ≤ 6 → 8 * 2 ^ k ≤ 512 := by
      intro k hk
      have : 2 ^ k ≤ 2 ^ 6 := Nat.pow_le_pow_right (by decide) hk
      omega
    obtain ⟨d, hd, hv2⟩ := loop_inv (step := fun z : Int × List Vrow × List Int => spec_l9Any_l1 z.1 z.2.1 z.2.2) (fun k z => z.1 = (k : Int) ∧ VS z.2 (8 * 2 ^ k - 1)) 6 (fun d => VS d 1000)
      (fun k z hk ⟨a1, a2⟩ => by
        obtain ⟨i, rows, qs⟩ := z
        simp only at a1 a2
        subst a1
        left
        have hk' := hpow k (by omega)
        obtain ⟨y, hy, hy2⟩ := rowS' (by omega) a2 (r := (w64 (10 + (k : Int)), 0, 0)) ⟨by show (-9223372036854775808 : Int) ≤ 0; decide, by show (0 : Int) ≤ 9223372036854775807; decide⟩
        refine ⟨(((k + 1 : Nat) : Int), y), ?_, rfl, ?_⟩
        · show spec_l9Any_l1 (k : Int) rows qs = _
          unfold spec_l9Any_l1
          rw [dlt (by omega), cond_true, hy, Option.bind_some, w64_nat (by omega)]
        · have e : 2 * (8 * 2 ^ k - 1) + 1 = 8 * 2 ^ (k + 1) - 1 := by
            have : 1 ≤ 2 ^ k := Nat.one_le_two_pow
            rw [Nat.pow_succ]; omega
          rw [← e]; exact hy2)
      (fun z ⟨a1, a2⟩ => by
        obtain ⟨i, rows, qs⟩ := z
        simp only at a1 a2
        subst a1
        refine ⟨(rows, qs), ?_, Nat.le_trans a2.a (by decide), a2.b, a2.r⟩
        show spec_l9Any_l1 ((6 : Nat) : Int) rows qs = _
        unfold spec_l9Any_l1
        rw [dnlt (by omega), cond_false]) (x := (0, v.1, v.2)) ⟨rfl, by show v.1.length ≤ 8 * 2 ^ 0 - 1; omega, by show v.2.length ≤ _; omega, hv.r⟩
    show ∃ c' v' n', ((loop _ (0, v.1, v.2)).bind _) = _ ∧ _
    rw [hd, Option.bind_some]
    exact ⟨_, _, _, rfl, w3, hv2⟩
  | false => exact ⟨_, _, _, rfl, w3, by show v.1.length ≤ _; omega, by show v.2.length ≤ _; omega, hv.r⟩
theorem anyD {c : L1Cur} (h : CW c) : ∃ c' b, spec_l11Any c = some (c', b) ∧ CW c' ∧ BWf b := by
  obtain ⟨c1, b, e1, w1, hb, _⟩ := bridgeD h
  obtain ⟨c2, r, e2, w2, _⟩ := belowD w1 16
  unfold spec_l11Any
  rw [e1, Option.bind_some]
  show ∃ c' b', ((spec_l1Below c1 16).bind _) = _ ∧ _
  rw [e2, Option.bind_some]
  show ∃ c' b', cond (r == 0) _ (cond (r == 1) _ (cond (r == 2) _ (cond (r == 3) _ (cond (r == 4) _ (cond (r == 5) _ _))))) = _ ∧ _
  cases r == 0 with
  | true =>
    obtain ⟨c3, x, e3, w3, _⟩ := intD w2 (l := [0, 99, 100]) (by decide)
    rw [cond_true, e3, Option.bind_some]
    exact ⟨_, _, rfl, w3, hb.p, hb.f, hb.v, hb.q, hb.r⟩
  | false =>
  cases r == 1 with
  | true =>
    obtain ⟨c3, x, e3, w3, _⟩ := strD w2 (l := [[116, 101, 110, 45, 98, 121, 116, 101, 115, 45], [101, 108, 101, 118, 101, 110, 45, 98, 121, 116, 101]]) (by decide)
    rw [cond_false, cond_true, e3, Option.bind_some]
    exact ⟨_, _, rfl, w3, hb.p, hb.f, hb.v, hb.q, hb.r⟩
  | false =>
  cases r == 2 with
  | true =>
    obtain ⟨c3, x, e3, w3, hx⟩ := portsA w2
    rw [cond_false, cond_false, cond_true, e3, Option.bind_some]
    exact ⟨_, _, rfl, w3, by show x.length < _; omega, hb.f, hb.v, hb.q, hb.r⟩
  | false =>
  cases r == 3 with
  | true =>
    obtain ⟨c3, x, e3, w3, hx⟩ := fdbA w2
    rw [cond_false, cond_false, cond_false, cond_true, e3, Option.bind_some]
    exact ⟨_, _, rfl, w3, hb.p, by show x.length < _; omega, hb.v, hb.q, hb.r⟩
  | false =>
  cases r == 4 with
  | true =>
    obtain ⟨c3, x, n, e3, w3, hx⟩ := vtabA w2
    have ha := hx.a
    have hb' := hx.b
    rw [cond_false, cond_false, cond_false, cond_false, cond_true, e3, Option.bind_some]
    exact ⟨_, _, rfl, w3, hb.p, hb.f, by show x.1.length < _; omega, by show x.2.length < _; omega, hx.r⟩
  | false =>
  cases r == 5 with
  | true =>
    obtain ⟨c3, x, e3, w3, _⟩ := intD w2 (l := [(-1), 1000000, 1000001]) (by decide)
    rw [cond_false, cond_false, cond_false, cond_false, cond_false, cond_true, e3, Option.bind_some]
    exact ⟨_, _, rfl, w3, hb.p, hb.f, hb.v, hb.q, hb.r⟩
  | false => exact ⟨_, _, rfl, w2, hb⟩
/-- A name is drawn of a bent bridge, too. -/
theorem nameA {c : L1Cur} (h : CW c) {b : Bridge} (hb : BWf b) : ∃ c' o, spec_l17Oid c b = some (c', o) ∧ CW c' ∧ Nm o := by
  cases hp : pBridge b with
  | true => exact nameD h (bok hb hp)
  | false =>
    unfold spec_l17Oid
    rw [mibS hb, hp, Bool.not_false, cond_true, Option.bind_some]
    show ∃ c' o, cond (decide ((0 : Int) > 0)) _ _ = _ ∧ _
    rw [show decide ((0 : Int) > 0) = false from rfl, cond_false]
    obtain ⟨c2, r, e2, w2, _⟩ := belowD h 8
    rw [e2, Option.bind_some]
    show ∃ c' o, cond (r == 0) _ (cond (r == 1) _ (cond (r == 2) _ (cond (r == 3) _ (cond (r == 4) _ (cond (r == 5) _ (cond (r == 6) _ _)))))) = _ ∧ _
    cases r == 0 with
    | true => exact ⟨_, _, rfl, w2, ⟨by decide, by decide, by decide⟩⟩
    | false =>
    cases r == 1 with
    | true => exact ⟨_, _, rfl, w2, ⟨by decide, by decide, by decide⟩⟩
    | false =>
    cases r == 2 with
    | true => rw [nameX _ (by decide)]; exact ⟨_, _, rfl, w2, nm6 (by decide) (by decide) (by decide)⟩
    | false =>
    cases r == 3 with
    | true =>
      obtain ⟨c3, k, e3, w3, hk⟩ := belowN w2 (n := 9) (by decide)
      have e3' : spec_l1Below c2 9 = some (c3, (k : Int)) := e3
      show ∃ c' o, ((spec_l1Below c2 9).bind _) = _ ∧ _
      rw [e3', Option.bind_some, nameX _ (by simp), Option.bind_some]
      refine ⟨_, _, rfl, w3, ?_⟩
      show Nm [1, 3, 1, 3, 1, w64 (1 + (k : Int))]
      rw [w64_id (by omega) (by omega)]
      exact nm6 (by decide) (by decide) (by omega)
    | false =>
    cases r == 4 with
    | true => rw [nameX _ (by decide)]; exact ⟨_, _, rfl, w2, nm5 (by decide) (by decide)⟩
    | false =>
    cases r == 5 with
    | true => rw [nameX _ (by decide)]; exact ⟨_, _, rfl, w2, nm4 (by decide)⟩
    | false =>
    cases r == 6 with
    | true => rw [nameX _ (by decide)]; exact ⟨_, _, rfl, w2, nm7 (by decide) (by decide) (by decide) (by decide)⟩
    | false =>
      obtain ⟨c3, o, e3, w3, hn⟩ := oidD w2
      show ∃ c' o, ((spec_l2Draw c2).bind _) = _ ∧ _
      rw [e3, Option.bind_some]
      exact ⟨_, _, rfl, w3, hn⟩
end Go.V.W
