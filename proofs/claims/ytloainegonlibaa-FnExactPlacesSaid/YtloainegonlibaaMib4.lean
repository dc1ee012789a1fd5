/- The law FnExactPlaces: part of the proof that for every input it returns true. No condition. -/
import Derived.Test.YtloainegonlibaaMib3
namespace Go.V.W
set_option linter.unusedVariables false
set_option linter.unusedSimpArgs false
theorem app_nat {α : Type} {xs ys : List α} (h : xs.length + ys.length ≤ 1000) : app xs ys = some (xs ++ ys) := by
  unfold app
  rw [if_pos (Nat.le_trans h (by decide))]
theorem addT {out : List Bind} {name : List Int} (n : Int) (h1 : out.length ≤ 900) (h2 : name.length ≤ 900) : ∃ t, spec_l17Add out name n = some t ∧ t.length = out.length + 1 := by
  unfold spec_l17Add spec_l17Name spec_l3Int
  rw [app_nat (by simp; omega)]
  simp only [Option.bind_some]
  rw [app_nat (by simp; omega)]
  exact ⟨_, rfl, by simp⟩
theorem add_step {out : List Bind} {name : List Int} (n : Int) (i : Int) (h1 : out.length ≤ 900) (h2 : name.length ≤ 900) : ∃ t, ((impl_number n).bind fun v => (impl_thing v name).bind fun t => (app out [t]).bind fun zs => some (Sum.inl (w64 (i + 1), zs) : (Int × List Bind) ⊕ List Bind)) = some (.inl (w64 (i + 1), t)) ∧ t.length = out.length + 1 := by
  obtain ⟨t, h, hl⟩ := addT n h1 h2
  exact ⟨t, by rw [add_same, h, Option.bind_some], hl⟩
theorem portT {b : Bridge} (h : BWf b) (c : Int) {k : Nat} (hk : k < b.2.2.1.length) (hq : b.2.2.1.length = b.2.2.2.2.2.1.length) : ∃ n, impl_portThing b c (k : Int) = some n := by
  obtain ⟨r, hr⟩ := roleT b.1 h.p (k : Int)
  unfold impl_portThing impl_bit
  rw [at_nat hk, at_nat (show k < b.2.2.2.2.2.1.length by omega), hr]
  simp only [Option.bind_some]
  cases (c == 1) <;> cases (c == 2) <;> cases (c == 3) <;> cases (b.2.2.1[k]).1 <;> exact ⟨_, rfl⟩
theorem inner_ports {b : Bridge} (h : BWf b) (hq : b.2.2.1.length = b.2.2.2.2.2.1.length) (h6 : b.2.2.1.length ≤ 6) (c : Int) (out : List Bind) (ho : out.length ≤ 500) : ∃ l, loop (fun z => impl_MibList_l4 b c z.1 z.2) (0, out) = some l ∧ l.length = out.length + b.2.2.1.length := by
  refine loop_inv (step := fun z : Int × List Bind => impl_MibList_l4 b c z.1 z.2) (fun k z => z.1 = (k : Int) ∧ z.2.length = out.length + k) b.2.2.1.length (fun l => l.length = out.length + b.2.2.1.length) (fun k z hk ⟨e1, e2⟩ => ?_) (fun z ⟨e1, e2⟩ => ?_) (x := (0, out)) ⟨rfl, rfl⟩
  · obtain ⟨i, l⟩ := z
    simp only at e1 e2
    subst e1
    left
    obtain ⟨n, hn⟩ := portT h c hk hq
    obtain ⟨t, ht, hl⟩ := add_step (out := l) (name := [2, c, w64 ((k : Int) + 1)]) n (k : Int) (by omega) (by simp)
    refine ⟨(w64 ((k : Int) + 1), t), ?_, w64_nat (by omega), by show t.length = _; omega⟩
    unfold impl_MibList_l4
    rw [dlt (by omega), cond_true, hn, Option.bind_some]
    exact ht
  · obtain ⟨i, l⟩ := z
    simp only at e1 e2
    subst e1
    refine ⟨l, ?_, e2⟩
    unfold impl_MibList_l4
    simp only [dnlt (show ¬ (b.2.2.1.length : Int) < (b.2.2.1.length : Int) by omega), cond_false]
theorem outer_ports {b : Bridge} (h : BWf b) (hq : b.2.2.1.length = b.2.2.2.2.2.1.length) (h6 : b.2.2.1.length ≤ 6) (out : List Bind) (ho : out.length ≤ 400) : ∃ l, loop (fun z => impl_MibList_l2 b z.1 z.2) (1, out) = some l ∧ l.length = out.length + 4 * b.2.2.1.length := by
  refine loop_inv (step := fun z : Int × List Bind => impl_MibList_l2 b z.1 z.2) (fun k z => z.1 = (k : Int) + 1 ∧ z.2.length = out.length + k * b.2.2.1.length) 4 (fun l => l.length = out.length + 4 * b.2.2.1.length) (fun k z hk ⟨e1, e2⟩ => ?_) (fun z ⟨e1, e2⟩ => ?_) (x := (1, out)) ⟨rfl, by simp⟩
  · obtain ⟨i, l⟩ := z
    simp only at e1 e2
    left
    have hkl : k * b.2.2.1.length ≤ 4 * 6 := Nat.mul_le_mul (by omega) h6
    obtain ⟨l2, h1, h2⟩ := inner_ports h hq h6 i l (by omega)
    refine ⟨(w64 (i + 1), l2), ?_, ?_, ?_⟩
    · show impl_MibList_l2 b i l = _
      unfold impl_MibList_l2
      rw [decide_eq_true (show i ≤ 4 by omega), cond_true, h1, Option.bind_some]
    · show w64 (i + 1) = _
      rw [w64_id (by omega) (by omega)]; omega
    · show l2.length = _
      rw [h2, e2, Nat.add_mul]; omega
  · obtain ⟨i, l⟩ := z
    simp only at e1 e2
    refine ⟨l, ?_, e2⟩
    show impl_MibList_l2 b i l = _
    unfold impl_MibList_l2
    rw [decide_eq_false (show ¬ i ≤ 4 by omega)]; rfl
theorem inner_rows {b : Bridge} {c : Int} (hc : 1 ≤ c ∧ c ≤ 3) (h6 : b.2.2.2.2.1.length ≤ 6) (out : List Bind) (ho : out.length ≤ 500) : ∃ l, loop (fun z => impl_MibList_l8 b c z.1 z.2) (0, out) = some l ∧ l.length = out.length + b.2.2.2.2.1.length := by
  refine loop_inv (step := fun z : Int × List Bind => impl_MibList_l8 b c z.1 z.2) (fun k z => z.1 = (k : Int) ∧ z.2.length = out.length + k) b.2.2.2.2.1.length (fun l => l.length = out.length + b.2.2.2.2.1.length) (fun k z hk ⟨e1, e2⟩ => ?_) (fun z ⟨e1, e2⟩ => ?_) (x := (0, out)) ⟨rfl, rfl⟩
  · obtain ⟨i, l⟩ := z
    simp only at e1 e2
    subst e1
    left
    have hr := rowS (r := b.2.2.2.2.1[k]) hc
    obtain ⟨n, hn⟩ : ∃ n, spec_l17Row b.2.2.2.2.1[k] c = some n := by
      unfold spec_l17Row; cases (c == 1) <;> cases (c == 2) <;> exact ⟨_, rfl⟩
    rw [hn] at hr
    obtain ⟨t, ht, hl⟩ := add_step (out := l) (name := [3, c, b.2.2.2.2.1[k].1]) n (k : Int) (by omega) (by simp)
    refine ⟨(w64 ((k : Int) + 1), t), ?_, w64_nat (by omega), by show t.length = _; omega⟩
    show impl_MibList_l8 b c (k : Int) l = _
    unfold impl_MibList_l8
    rw [dlt (by omega), cond_true, at_nat hk, Option.bind_some, ← ht]
    rw [Option.bind_eq_some_iff] at hr
    obtain ⟨j, hj, hr⟩ := hr
    rw [hj, Option.bind_some]
    rw [Option.bind_eq_some_iff] at hr
    obtain ⟨x, hx, hr⟩ := hr
    cases hr
    rw [hx, Option.bind_some]
  · obtain ⟨i, l⟩ := z
    simp only at e1 e2
    subst e1
    refine ⟨l, ?_, e2⟩
    show impl_MibList_l8 b c _ l = _
    unfold impl_MibList_l8
    simp only [dnlt (show ¬ (b.2.2.2.2.1.length : Int) < (b.2.2.2.2.1.length : Int) by omega), cond_false]
theorem outer_rows {b : Bridge} (h6 : b.2.2.2.2.1.length ≤ 6) (out : List Bind) (ho : out.length ≤ 400) : ∃ l, loop (fun z => impl_MibList_l6 b z.1 z.2) (1, out) = some l ∧ l.length = out.length + 3 * b.2.2.2.2.1.length := by
  refine loop_inv (step := fun z : Int × List Bind => impl_MibList_l6 b z.1 z.2) (fun k z => z.1 = (k : Int) + 1 ∧ z.2.length = out.length + k * b.2.2.2.2.1.length) 3 (fun l => l.length = out.length + 3 * b.2.2.2.2.1.length) (fun k z hk ⟨e1, e2⟩ => ?_) (fun z ⟨e1, e2⟩ => ?_) (x := (1, out)) ⟨rfl, by simp⟩
  · obtain ⟨i, l⟩ := z
    simp only at e1 e2
    left
    have hkl : k * b.2.2.2.2.1.length ≤ 3 * 6 := Nat.mul_le_mul (by omega) h6
    obtain ⟨l2, h1, h2⟩ := inner_rows (b := b) (c := i) ⟨by omega, by omega⟩ h6 l (by omega)
    refine ⟨(w64 (i + 1), l2), ?_, ?_, ?_⟩
    · show impl_MibList_l6 b i l = _
      unfold impl_MibList_l6
      rw [decide_eq_true (show i ≤ 3 by omega), cond_true, h1, Option.bind_some]
    · show w64 (i + 1) = _
      rw [w64_id (by omega) (by omega)]; omega
    · show l2.length = _
      rw [h2, e2, Nat.add_mul]; omega
  · obtain ⟨i, l⟩ := z
    simp only at e1 e2
    refine ⟨l, ?_, e2⟩
    show impl_MibList_l6 b i l = _
    unfold impl_MibList_l6
    rw [decide_eq_false (show ¬ i ≤ 3 by omega)]; rfl
theorem fdb_rows {b : Bridge} (h12 : b.2.2.2.1.length ≤ 12) (out : List Bind) (ho : out.length ≤ 500) : ∃ l, loop (fun z => impl_MibList_l10 b z.1 z.2) (0, out) = some l ∧ l.length = out.length + b.2.2.2.1.length := by
  refine loop_inv (step := fun z : Int × List Bind => impl_MibList_l10 b z.1 z.2) (fun k z => z.1 = (k : Int) ∧ z.2.length = out.length + k) b.2.2.2.1.length (fun l => l.length = out.length + b.2.2.2.1.length) (fun k z hk ⟨e1, e2⟩ => ?_) (fun z ⟨e1, e2⟩ => ?_) (x := (0, out)) ⟨rfl, rfl⟩
  · obtain ⟨i, l⟩ := z
    simp only at e1 e2
    subst e1
    left
    obtain ⟨t, ht, hl⟩ := add_step (out := l) (name := [4, 1, b.2.2.2.1[k].1, b.2.2.2.1[k].2.1]) (w64 (b.2.2.2.1[k].2.2.1 + 1)) (k : Int) (by omega) (by simp)
    refine ⟨(w64 ((k : Int) + 1), t), ?_, w64_nat (by omega), by show t.length = _; omega⟩
    show impl_MibList_l10 b (k : Int) l = _
    unfold impl_MibList_l10
    rw [dlt (by omega), cond_true, at_nat hk, Option.bind_some]
    exact ht
  · obtain ⟨i, l⟩ := z
    simp only at e1 e2
    subst e1
    refine ⟨l, ?_, e2⟩
    show impl_MibList_l10 b _ l = _
    unfold impl_MibList_l10
    simp only [dnlt (show ¬ (b.2.2.2.1.length : Int) < (b.2.2.2.1.length : Int) by omega), cond_false]
/-- A bridge's things are told. -/
theorem mib_total {b : Bridge} (h : BWf b) : ∃ l, impl_MibList b = some l ∧ l.length ≤ 100 := by
  rw [mibT h]
  cases hb : pBridge b with
  | false => exact ⟨[], rfl, by simp⟩
  | true =>
    unfold pBridge at hb
    simp only [Bool.and_eq_true] at hb
    obtain ⟨_, _, _, h1, h2, h3, _⟩ := hb
    unfold pIn at h1
    simp only [Bool.and_eq_true, decide_eq_true_eq] at h1
    unfold pFdb at h2
    simp only [Bool.and_eq_true, decide_eq_true_eq] at h2
    unfold pVtab at h3
    simp only [Bool.and_eq_true, Bool.not_eq_true', Bool.or_eq_false_iff, decide_eq_false_iff_not, bne_eq_false_iff_eq] at h3
    obtain ⟨⟨_, h4, h5⟩, _⟩ := h3
    obtain ⟨l1, e1, k1⟩ := outer_ports h (by omega) (by omega) (mib5 b) (by show 5 ≤ 400; omega)
    have k0 : (mib5 b).length = 5 := rfl
    obtain ⟨l2, e2, k2⟩ := outer_rows (b := b) (by omega) l1 (by omega)
    obtain ⟨l3, e3, k3⟩ := fdb_rows (b := b) (by omega) l2 (by omega)
    refine ⟨l3, ?_, by omega⟩
    show mibRest b (mib5 b) = _
    unfold mibRest
    rw [e1, Option.bind_some, e2, Option.bind_some, e3, Option.bind_some]
end Go.V.W
