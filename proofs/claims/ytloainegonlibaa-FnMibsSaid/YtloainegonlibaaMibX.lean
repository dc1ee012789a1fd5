/- The law FnMibs: part of the proof that for every input it returns true. No condition. -/
import Derived.Test.YtloainegonlibaaDrawB
namespace Go.V.W
set_option linter.unusedVariables false
set_option linter.unusedSimpArgs false
/-! ### all names, laid out -/
noncomputable def portV (b : Bridge) (c p : Int) : Int := (impl_portThing b c p).getD 0
def num (name : List Int) (n : Int) : Bind := ([1, 3, 1] ++ name, 2, n, [], [])
def rowVal (r : Vrow) (c : Nat) : Int := match c with | 0 => 1 | 1 => r.2.1 | _ => r.2.2
noncomputable def portG (b : Bridge) (c : Nat) : List Bind := (List.range b.2.2.1.length).map fun k => num [2, ((c + 1 : Nat) : Int), ((k + 1 : Nat) : Int)] (portV b ((c + 1 : Nat) : Int) (k : Int))
def rowG (b : Bridge) (c : Nat) : List Bind := b.2.2.2.2.1.map fun r => num [3, ((c + 1 : Nat) : Int), r.1] (rowVal r c)
def fdbG (b : Bridge) : List Bind := b.2.2.2.1.map fun e => num [4, 1, e.1, e.2.1] (w64 (e.2.2.1 + 1))
noncomputable def mib (b : Bridge) : List Bind := mib5 b ++ (List.range 4).flatMap (portG b) ++ (List.range 3).flatMap (rowG b) ++ fdbG b
theorem step_num {out : List Bind} (name : List Int) (n i : Int) (h1 : out.length ≤ 900) (h2 : name.length ≤ 900) : ((impl_number n).bind fun v => (impl_thing v name).bind fun t => (app out [t]).bind fun zs => some (Sum.inl (w64 (i + 1), zs) : (Int × List Bind) ⊕ List Bind)) = some (Sum.inl (w64 (i + 1), out ++ [num name n])) := by
  unfold impl_number impl_thing
  rw [Option.bind_some, app_small (by show 3 + name.length ≤ _; omega), Option.bind_some, Option.bind_some, app_small (by show out.length + 1 ≤ _; omega), Option.bind_some]
  rfl
theorem portX {b : Bridge} (h : BWf b) (hq : b.2.2.1.length = b.2.2.2.2.2.1.length) (h6 : b.2.2.1.length ≤ 6) (c : Nat) (out : List Bind) (ho : out.length ≤ 500) : loop (fun z => impl_MibList_l4 b ((c + 1 : Nat) : Int) z.1 z.2) (0, out) = some (out ++ portG b c) := by
  obtain ⟨v, h1, rfl⟩ := loop_inv (step := fun z : Int × List Bind => impl_MibList_l4 b ((c + 1 : Nat) : Int) z.1 z.2) (fun k z => z.1 = (k : Int) ∧ z.2 = out ++ (List.range k).map fun k => num [2, ((c + 1 : Nat) : Int), ((k + 1 : Nat) : Int)] (portV b ((c + 1 : Nat) : Int) (k : Int))) b.2.2.1.length (fun v => v = out ++ portG b c)
    (fun k z hk ⟨e1, e2⟩ => by
      obtain ⟨i, l⟩ := z
      simp only at e1 e2
      subst e1
      left
      obtain ⟨n, hn⟩ := portT h ((c + 1 : Nat) : Int) hk hq
      have hv : portV b ((c + 1 : Nat) : Int) (k : Int) = n := by unfold portV; rw [hn]; rfl
      have hl : l.length ≤ 900 := by rw [e2]; simp; omega
      refine ⟨(((k + 1 : Nat) : Int), l ++ [num [2, ((c + 1 : Nat) : Int), ((k + 1 : Nat) : Int)] n]), ?_, rfl, ?_⟩
      · show impl_MibList_l4 b ((c + 1 : Nat) : Int) (k : Int) l = _
        unfold impl_MibList_l4
        rw [dlt (by omega), cond_true, hn, Option.bind_some, step_num _ _ _ hl (by simp), w64_nat (by omega)]
      · show l ++ [num _ n] = _
        rw [e2, List.range_succ, List.map_append, ← List.append_assoc, List.map_singleton, hv])
    (fun z ⟨e1, e2⟩ => by
      obtain ⟨i, l⟩ := z
      simp only at e1 e2
      subst e1
      refine ⟨l, ?_, e2⟩
      show impl_MibList_l4 b ((c + 1 : Nat) : Int) _ l = _
      unfold impl_MibList_l4
      rw [dnlt (by omega), cond_false]) (x := (0, out)) ⟨rfl, by simp⟩
  exact h1
theorem portsX {b : Bridge} (h : BWf b) (hq : b.2.2.1.length = b.2.2.2.2.2.1.length) (h6 : b.2.2.1.length ≤ 6) (out : List Bind) (ho : out.length ≤ 100) : loop (fun z => impl_MibList_l2 b z.1 z.2) (1, out) = some (out ++ (List.range 4).flatMap (portG b)) := by
  have hg : ∀ c, (portG b c).length ≤ 6 := fun c => by unfold portG; rw [List.length_map, List.length_range]; exact h6
  obtain ⟨v, h1, rfl⟩ := loop_inv (step := fun z : Int × List Bind => impl_MibList_l2 b z.1 z.2) (fun k z => z.1 = ((k + 1 : Nat) : Int) ∧ z.2 = out ++ (List.range k).flatMap (portG b) ∧ z.2.length ≤ 100 + 6 * k) 4 (fun v => v = out ++ (List.range 4).flatMap (portG b))
    (fun k z hk ⟨e1, e2, e3⟩ => by
      obtain ⟨i, l⟩ := z
      simp only at e1 e2 e3
      subst e1
      left
      have hg' := hg k
      refine ⟨(((k + 1 + 1 : Nat) : Int), l ++ portG b k), ?_, rfl, ?_, by show (l ++ portG b k).length ≤ _; rw [List.length_append]; omega⟩
      · show impl_MibList_l2 b ((k + 1 : Nat) : Int) l = _
        unfold impl_MibList_l2
        rw [decide_eq_true (show ((k + 1 : Nat) : Int) ≤ 4 by omega), cond_true, portX h hq h6 k l (by omega), Option.bind_some, w64_nat (by omega)]
      · show l ++ portG b k = _
        rw [e2, List.range_succ, List.flatMap_append, ← List.append_assoc]; simp)
    (fun z ⟨e1, e2, e3⟩ => by
      obtain ⟨i, l⟩ := z
      simp only at e1 e2 e3
      subst e1
      exact ⟨l, rfl, e2⟩) (x := (1, out)) ⟨rfl, by simp, by show out.length ≤ _; omega⟩
  exact h1
theorem rowX {b : Bridge} (h6 : b.2.2.2.2.1.length ≤ 6) {c : Nat} (hc : c < 3) (out : List Bind) (ho : out.length ≤ 500) : loop (fun z => impl_MibList_l8 b ((c + 1 : Nat) : Int) z.1 z.2) (0, out) = some (out ++ rowG b c) := by
  obtain ⟨v, h1, rfl⟩ := loop_inv (step := fun z : Int × List Bind => impl_MibList_l8 b ((c + 1 : Nat) : Int) z.1 z.2) (fun k z => z.1 = (k : Int) ∧ z.2 = out ++ (b.2.2.2.2.1.take k).map fun r => num [3, ((c + 1 : Nat) : Int), r.1] (rowVal r c)) b.2.2.2.2.1.length (fun v => v = out ++ rowG b c)
    (fun k z hk ⟨e1, e2⟩ => by
      obtain ⟨i, l⟩ := z
      simp only at e1 e2
      subst e1
      left
      have hl : l.length ≤ 900 := by rw [e2]; simp; omega
      refine ⟨(((k + 1 : Nat) : Int), l ++ [num [3, ((c + 1 : Nat) : Int), b.2.2.2.2.1[k].1] (rowVal b.2.2.2.2.1[k] c)]), ?_, rfl, ?_⟩
      · show impl_MibList_l8 b ((c + 1 : Nat) : Int) (k : Int) l = _
        unfold impl_MibList_l8
        rw [dlt (by omega), cond_true, at_nat hk, Option.bind_some]
        generalize b.2.2.2.2.1[k] = r
        have hw : w64 (((c + 1 : Nat) : Int) - 1) = (c : Int) := by rw [w64_id (by omega) (by omega)]; omega
        have hx : (ix [1, r.2.1, r.2.2].length (w64 (((c + 1 : Nat) : Int) - 1))).bind (fun j91 => ([1, r.2.1, r.2.2][j91]?).bind fun x92 => (impl_number x92).bind fun t93 => (impl_thing t93 [3, ((c + 1 : Nat) : Int), r.1]).bind fun t98 => (app l [t98]).bind fun zs100 => some (Sum.inl (w64 ((k : Int) + 1), zs100) : (Int × List Bind) ⊕ List Bind)) = (impl_number (rowVal r c)).bind fun t93 => (impl_thing t93 [3, ((c + 1 : Nat) : Int), r.1]).bind fun t98 => (app l [t98]).bind fun zs100 => some (Sum.inl (w64 ((k : Int) + 1), zs100)) := by
          rw [hw, ix_nat (show c < [1, r.2.1, r.2.2].length from hc), Option.bind_some]
          rcases (show c = 0 ∨ c = 1 ∨ c = 2 by omega) with rfl | rfl | rfl <;> rfl
        rw [hx, step_num _ _ _ hl (by simp), w64_nat (by omega)]
      · show l ++ [num _ _] = _
        rw [e2, List.take_add_one, List.getElem?_eq_getElem hk, List.map_append, ← List.append_assoc]; rfl)
    (fun z ⟨e1, e2⟩ => by
      obtain ⟨i, l⟩ := z
      simp only at e1 e2
      subst e1
      rw [List.take_length] at e2
      refine ⟨l, ?_, e2⟩
      show impl_MibList_l8 b ((c + 1 : Nat) : Int) _ l = _
      unfold impl_MibList_l8
      rw [dnlt (by omega), cond_false]) (x := (0, out)) ⟨rfl, by simp⟩
  exact h1
theorem rowsX {b : Bridge} (h6 : b.2.2.2.2.1.length ≤ 6) (out : List Bind) (ho : out.length ≤ 200) : loop (fun z => impl_MibList_l6 b z.1 z.2) (1, out) = some (out ++ (List.range 3).flatMap (rowG b)) := by
  have hg : ∀ c, (rowG b c).length ≤ 6 := fun c => by unfold rowG; rw [List.length_map]; exact h6
  obtain ⟨v, h1, rfl⟩ := loop_inv (step := fun z : Int × List Bind => impl_MibList_l6 b z.1 z.2) (fun k z => z.1 = ((k + 1 : Nat) : Int) ∧ z.2 = out ++ (List.range k).flatMap (rowG b) ∧ z.2.length ≤ 200 + 6 * k) 3 (fun v => v = out ++ (List.range 3).flatMap (rowG b))
    (fun k z hk ⟨e1, e2, e3⟩ => by
      obtain ⟨i, l⟩ := z
      simp only at e1 e2 e3
      subst e1
      left
      have hg' := hg k
      refine ⟨(((k + 1 + 1 : Nat) : Int), l ++ rowG b k), ?_, rfl, ?_, by show (l ++ rowG b k).length ≤ _; rw [List.length_append]; omega⟩
      · show impl_MibList_l6 b ((k + 1 : Nat) : Int) l = _
        unfold impl_MibList_l6
        rw [decide_eq_true (show ((k + 1 : Nat) : Int) ≤ 3 by omega), cond_true, rowX h6 hk l (by omega), Option.bind_some, w64_nat (by omega)]
      · show l ++ rowG b k = _
        rw [e2, List.range_succ, List.flatMap_append, ← List.append_assoc]; simp)
    (fun z ⟨e1, e2, e3⟩ => by
      obtain ⟨i, l⟩ := z
      simp only at e1 e2 e3
      subst e1
      exact ⟨l, rfl, e2⟩) (x := (1, out)) ⟨rfl, by simp, by show out.length ≤ _; omega⟩
  exact h1
theorem fdbX {b : Bridge} (h12 : b.2.2.2.1.length ≤ 12) (out : List Bind) (ho : out.length ≤ 500) : loop (fun z => impl_MibList_l10 b z.1 z.2) (0, out) = some (out ++ fdbG b) := by
  obtain ⟨v, h1, rfl⟩ := loop_inv (step := fun z : Int × List Bind => impl_MibList_l10 b z.1 z.2) (fun k z => z.1 = (k : Int) ∧ z.2 = out ++ (b.2.2.2.1.take k).map fun e => num [4, 1, e.1, e.2.1] (w64 (e.2.2.1 + 1))) b.2.2.2.1.length (fun v => v = out ++ fdbG b)
    (fun k z hk ⟨e1, e2⟩ => by
      obtain ⟨i, l⟩ := z
      simp only at e1 e2
      subst e1
      left
      have hl : l.length ≤ 900 := by rw [e2]; simp; omega
      refine ⟨(((k + 1 : Nat) : Int), l ++ [num [4, 1, b.2.2.2.1[k].1, b.2.2.2.1[k].2.1] (w64 (b.2.2.2.1[k].2.2.1 + 1))]), ?_, rfl, ?_⟩
      · show impl_MibList_l10 b (k : Int) l = _
        unfold impl_MibList_l10
        rw [dlt (by omega), cond_true, at_nat hk, Option.bind_some, step_num _ _ _ hl (by simp), w64_nat (by omega)]
      · show l ++ [num _ _] = _
        rw [e2, List.take_add_one, List.getElem?_eq_getElem hk, List.map_append, ← List.append_assoc]; rfl)
    (fun z ⟨e1, e2⟩ => by
      obtain ⟨i, l⟩ := z
      simp only at e1 e2
      subst e1
      rw [List.take_length] at e2
      refine ⟨l, ?_, e2⟩
      show impl_MibList_l10 b _ l = _
      unfold impl_MibList_l10
      rw [dnlt (by omega), cond_false]) (x := (0, out)) ⟨rfl, by simp⟩
  exact h1
/-- What a right bridge's parts are. -/
structure BOk (b : Bridge) : Prop where
  w : BWf b
  ok : pBridge b = true
  p : ∀ x ∈ b.2.2.1, pPt x = true
  id : pIn b.1 1 99 = true
  name : b.2.1.length ≤ 10
  n1 : 1 ≤ b.2.2.1.length
  n6 : b.2.2.1.length ≤ 6
  f : pFdb b.2.2.2.1 = true
  v : pVtab (b.2.2.2.2.1, b.2.2.2.2.2.1) (b.2.2.1.length : Int) = true
  c : pCounts b = true
theorem bok {b : Bridge} (h : BWf b) (hb : pBridge b = true) : BOk b := by
  have hb' := hb
  unfold pBridge at hb
  simp only [Bool.and_eq_true, Bool.not_eq_true', decide_eq_false_iff_not] at hb
  obtain ⟨h1, h2, h3, h4, h5, h6, h7⟩ := hb
  refine ⟨h, hb', fun x hx => ?_, h2, by omega, ?_, ?_, h5, h6, h7⟩
  · obtain ⟨k, hk, rfl⟩ := List.getElem_of_mem hx
    cases hp : pPt b.2.2.1[k] with
    | true => rfl
    | false =>
      have := List.any_eq_false.1 h1 k (List.mem_range.2 hk)
      unfold bPt at this
      simp only [List.getElem?_eq_getElem hk, hp] at this
      exact absurd rfl this
  · unfold pIn at h4
    simp only [Bool.and_eq_true, decide_eq_true_eq] at h4; omega
  · unfold pIn at h4
    simp only [Bool.and_eq_true, decide_eq_true_eq] at h4; omega
theorem BOk.vt {b : Bridge} (h : BOk b) : VT (b.2.2.2.2.1, b.2.2.2.2.2.1) b.2.2.1.length := ⟨h.v, h.w.r⟩
theorem BOk.f12 {b : Bridge} (h : BOk b) : b.2.2.2.1.length ≤ 12 := by
  have hf := h.f
  unfold pFdb at hf
  simp only [Bool.and_eq_true, decide_eq_true_eq] at hf
  omega
theorem mibX {b : Bridge} (h : BOk b) : impl_MibList b = some (mib b) := by
  obtain ⟨v1, v2, v3, v4⟩ := h.vt.len
  have v3' : b.2.2.2.2.2.1.length = b.2.2.1.length := v3
  have v4' : b.2.2.2.2.1.length ≤ 6 := v4
  have hp : ((List.range 4).flatMap (portG b)).length ≤ 24 := by
    have hg : ∀ c, (portG b c).length ≤ 6 := fun c => by unfold portG; rw [List.length_map, List.length_range]; exact h.n6
    have h0 := hg 0; have h1 := hg 1; have h2 := hg 2; have h3 := hg 3
    show (portG b 0 ++ (portG b 1 ++ (portG b 2 ++ (portG b 3 ++ [])))).length ≤ 24
    simp only [List.length_append, List.length_nil]; omega
  have hr : ((List.range 3).flatMap (rowG b)).length ≤ 18 := by
    have hg : ∀ c, (rowG b c).length ≤ 6 := fun c => by unfold rowG; rw [List.length_map]; exact v4'
    have h0 := hg 0; have h1 := hg 1; have h2 := hg 2
    show (rowG b 0 ++ (rowG b 1 ++ (rowG b 2 ++ []))).length ≤ 18
    simp only [List.length_append, List.length_nil]; omega
  have k5 : (mib5 b).length = 5 := rfl
  rw [mibT h.w, h.ok, Bool.not_true, cond_false]
  unfold mibRest
  rw [portsX h.w v3'.symm h.n6 (mib5 b) (by omega), Option.bind_some, rowsX v4' _ (by rw [List.length_append]; omega), Option.bind_some, fdbX h.f12 _ (by rw [List.length_append, List.length_append]; omega), Option.bind_some]
  rfl
end Go.V.W
