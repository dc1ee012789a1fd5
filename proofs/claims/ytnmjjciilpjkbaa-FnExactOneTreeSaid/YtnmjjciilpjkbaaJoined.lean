/- The law FnExactOneTree: part of the proof that for every input it returns true. No condition. -/
import Derived.Test.YtnmjjciilpjkbaaOneTreeB
namespace Go.V.W
set_option linter.unusedVariables false
set_option linter.unusedSimpArgs false
/-! ### is it there -/
def hasB (l : List Int) (x : Int) : Bool := decide (x ∈ l)
theorem hasS {l : List Int} (x : Int) (h : l.length < 9223372036854775807) : spec_l15Has l x = some (hasB l x) := by
  obtain ⟨b, h1, rfl⟩ := loop_inv (step := fun z => spec_l15Has_l0 l x z) (fun k i => i = (k : Int) ∧ x ∉ l.take k) l.length (fun b => b = cond (hasB l x) (Sum.inr true) (Sum.inl ()))
    (fun k i hk ⟨e, hn⟩ => by
      subst e
      have hs : spec_l15Has_l0 l x (k : Int) = cond (l[k] == x) (some (.inr (.inr true))) (some (.inl ((k + 1 : Nat) : Int))) := by
        unfold spec_l15Has_l0
        rw [dlt (by omega), cond_true, at_nat hk, Option.bind_some, w64_nat (by omega)]
      cases hb : (l[k] == x) with
      | true =>
        refine .inr ⟨_, by rw [hs, hb]; rfl, ?_⟩
        have : x ∈ l := by rw [← eq_of_beq hb]; exact List.getElem_mem hk
        rw [show hasB l x = true from decide_eq_true this]; rfl
      | false =>
        refine .inl ⟨_, by rw [hs, hb]; rfl, rfl, ?_⟩
        rw [List.take_add_one, List.getElem?_eq_getElem hk, List.mem_append]
        intro h1
        rcases h1 with h1 | h1
        · exact hn h1
        · simp at h1; rw [h1] at hb; simp at hb)
    (fun i ⟨e, hn⟩ => by
      subst e
      rw [List.take_length] at hn
      refine ⟨.inl (), ?_, ?_⟩
      · show spec_l15Has_l0 l x _ = _
        unfold spec_l15Has_l0; rw [dnlt (by omega), cond_false]
      · rw [show hasB l x = false from decide_eq_false hn]; rfl) (x := 0) ⟨rfl, by simp⟩
  unfold spec_l15Has
  rw [h1, Option.bind_some]
  cases hasB l x <;> rfl
theorem hasT : impl_hasInt = spec_l15Has := rfl
/-! ### those numbers for which it is so -/
def those (b : Nat → Bool) (m : Nat) : List Int := ((List.range m).filter b).map fun (k : Nat) => (k : Int)
theorem those_le (b : Nat → Bool) (m : Nat) : (those b m).length ≤ m := by
  unfold those
  rw [List.length_map]
  exact Nat.le_trans (List.length_filter_le _ _) (by simp)
theorem those_succ (b : Nat → Bool) (m : Nat) : those b (m + 1) = cond (b m) (those b m ++ [(m : Int)]) (those b m) := by
  unfold those
  rw [List.range_succ, List.filter_append, List.map_append]
  cases h : b m <;> simp [h]
theorem those_congr {b c : Nat → Bool} {m : Nat} (h : ∀ k, k < m → b k = c k) : those b m = those c m := by
  unfold those
  rw [List.filter_congr fun k hk => h k (List.mem_range.1 hk)]
theorem collect {n : Nat} {c : Int → Option Bool} {b : Nat → Bool} (hn : n ≤ 1048576) (hc : ∀ k, k < n → c (k : Int) = some (b k)) :
    loop (fun z : Int × List Int => cond (decide (z.1 < (n : Int))) ((c z.1).bind fun t => cond t ((app z.2 [z.1]).bind fun zs => some (.inl (w64 (z.1 + 1), zs))) (some (.inl (w64 (z.1 + 1), z.2)))) (some (.inr z.2))) (0, ([] : List Int)) = some (those b n) := by
  obtain ⟨v, h1, rfl⟩ := loop_inv (step := fun z : Int × List Int => cond (decide (z.1 < (n : Int))) ((c z.1).bind fun t => cond t ((app z.2 [z.1]).bind fun zs => some (.inl (w64 (z.1 + 1), zs))) (some (.inl (w64 (z.1 + 1), z.2)))) (some (.inr z.2))) (fun k z => z.1 = (k : Int) ∧ z.2 = those b k) n (fun l => l = those b n)
    (fun k z hk ⟨e1, e2⟩ => by
      obtain ⟨i, l⟩ := z
      simp only at e1 e2
      subst e1 e2
      left
      have hle := those_le b k
      refine ⟨(w64 ((k : Int) + 1), those b (k + 1)), ?_, w64_nat (by omega), rfl⟩
      simp only [dlt (show (k : Int) < (n : Int) by omega), cond_true, hc k hk, Option.bind_some]
      rw [those_succ]
      cases b k with
      | false => rfl
      | true => rw [cond_true, app_big (by simp; omega)]; rfl)
    (fun z ⟨e1, e2⟩ => by
      obtain ⟨i, l⟩ := z
      simp only at e1 e2
      subst e1 e2
      exact ⟨_, by simp only [dnlt (show ¬ (n : Int) < (n : Int) by omega), cond_false], rfl⟩) (x := (0, [])) ⟨rfl, rfl⟩
  exact h1
/-! ### one link more -/
def edge (l : List Bool) (x : Link) : Bool := pIn x.1 0 ((l.length : Int) - 1) && (pIn x.2.2.1 0 ((l.length : Int) - 1) && !(l.getD x.1.toNat false == l.getD x.2.2.1.toNat false))
def addL (l : List Bool) (x : Link) : List Bool := cond (edge l x) ((l.set x.1.toNat true).set x.2.2.1.toNat true) l
def linkOf (n : Net) (k : Int) : Option Link := cond (pIn k 0 ((n.2.1.length : Int) - 1)) (at? n.2.1 k) none
def addK (n : Net) (l : List Bool) (k : Int) : List Bool := match linkOf n k with | some x => addL l x | none => l
def pass (n : Net) (ks : List Int) (l : List Bool) : List Bool := ks.foldl (addK n) l
def passN (n : Net) (ks : List Int) (l : List Bool) : Nat → List Bool
  | 0 => l
  | k + 1 => pass n ks (passN n ks l k)
def cnt (l : List Bool) : Nat := l.count true
theorem cnt_le (l : List Bool) : cnt l ≤ l.length := List.count_le_length
theorem set_same {l : List Bool} {i : Nat} (h : l[i]? = some true) : l.set i true = l := by
  obtain ⟨hi, he⟩ := List.getElem?_eq_some_iff.1 h
  rw [← he]
  exact List.set_getElem_self hi
theorem cnt_set {l : List Bool} {i : Nat} (h : l[i]? = some false) : cnt (l.set i true) = cnt l + 1 := by
  obtain ⟨hi, he⟩ := List.getElem?_eq_some_iff.1 h
  unfold cnt
  rw [List.count_set hi, he]
  simp
theorem in_nat {n : Nat} {i : Int} (h : pIn i 0 ((n : Int) - 1) = true) : ∃ k : Nat, k < n ∧ i = (k : Int) := by
  unfold pIn at h
  simp only [Bool.and_eq_true, decide_eq_true_eq] at h
  exact ⟨i.toNat, by omega, by omega⟩
theorem nat_in {n k : Nat} (h : k < n) : pIn (k : Int) 0 ((n : Int) - 1) = true := by
  unfold pIn
  rw [decide_eq_true (by omega), decide_eq_true (by omega)]; rfl
theorem getD_nat {l : List Bool} {k : Nat} (h : k < l.length) : l.getD k false = l[k] := by
  rw [List.getD_eq_getElem?_getD, List.getElem?_eq_getElem h]; rfl
theorem edge_one {l : List Bool} {x : Link} (h : edge l x = true) : ∃ i, l[i]? = some false ∧ addL l x = l.set i true := by
  unfold edge at h
  simp only [Bool.and_eq_true, Bool.not_eq_true'] at h
  obtain ⟨h1, h2, h3⟩ := h
  obtain ⟨a, ha, ea⟩ := in_nat h1
  obtain ⟨b, hb, eb⟩ := in_nat h2
  have he : edge l x = true := by unfold edge; rw [h1, h2, h3]; rfl
  unfold addL
  rw [he, cond_true, ea, eb, Int.toNat_natCast, Int.toNat_natCast]
  rw [ea, eb, Int.toNat_natCast, Int.toNat_natCast, getD_nat ha, getD_nat hb] at h3
  cases va : l[a] with
  | true =>
    cases vb : l[b] with
    | true => rw [va, vb] at h3; cases h3
    | false => exact ⟨b, by rw [List.getElem?_eq_getElem hb, vb], by rw [set_same (l := l) (i := a) (by rw [List.getElem?_eq_getElem ha, va])]⟩
  | false =>
    cases vb : l[b] with
    | false => rw [va, vb] at h3; cases h3
    | true =>
      refine ⟨a, by rw [List.getElem?_eq_getElem ha, va], set_same ?_⟩
      rw [List.getElem?_set]
      split
      · rename_i e; subst e; exact absurd (va.symm.trans vb) (by decide)
      · rw [List.getElem?_eq_getElem hb, vb]
theorem addL_len (l : List Bool) (x : Link) : (addL l x).length = l.length := by
  unfold addL; cases edge l x <;> simp
theorem addK_len (n : Net) (l : List Bool) (k : Int) : (addK n l k).length = l.length := by
  unfold addK; split
  · exact addL_len _ _
  · rfl
theorem pass_len (n : Net) (ks : List Int) (l : List Bool) : (pass n ks l).length = l.length := by
  unfold pass
  induction ks generalizing l with
  | nil => rfl
  | cons k ks ih => rw [List.foldl_cons, ih, addK_len]
theorem passN_len (n : Net) (ks : List Int) (l : List Bool) (k : Nat) : (passN n ks l k).length = l.length := by
  induction k with
  | zero => rfl
  | succ k ih => exact (pass_len _ _ _).trans ih
theorem passN_fix {n : Net} {ks : List Int} {l : List Bool} {k : Nat} (h : pass n ks (passN n ks l k) = passN n ks l k) (j : Nat) : passN n ks l (k + j) = passN n ks l k := by
  induction j with
  | zero => rfl
  | succ j ih => show pass n ks (passN n ks l (k + j)) = _; rw [ih, h]
/-! ### the program's pass -/
def addC (n : Net) (s : Bool × List Bool) (k : Int) : Bool × List Bool := match linkOf n k with
  | some x => cond (edge s.2 x) (true, addL s.2 x) s
  | none => s
theorem addC_len (n : Net) (s : Bool × List Bool) (k : Int) : (addC n s k).2.length = s.2.length := by
  unfold addC
  split
  · cases edge s.2 _ with
    | false => rfl
    | true => exact addL_len _ _
  · rfl
theorem addC_eq (n : Net) (s : Bool × List Bool) (k : Int) : (addC n s k).2 = addK n s.2 k ∧ (((addC n s k).1 = s.1 ∧ (addC n s k).2 = s.2) ∨ ((addC n s k).1 = true ∧ cnt (addC n s k).2 = cnt s.2 + 1)) := by
  unfold addC addK
  cases linkOf n k with
  | none => exact ⟨rfl, .inl ⟨rfl, rfl⟩⟩
  | some x =>
    show (cond (edge s.2 x) (true, addL s.2 x) s).2 = _ ∧ (((cond (edge s.2 x) (true, addL s.2 x) s).1 = _ ∧ (cond (edge s.2 x) (true, addL s.2 x) s).2 = _) ∨ ((cond (edge s.2 x) (true, addL s.2 x) s).1 = true ∧ cnt (cond (edge s.2 x) (true, addL s.2 x) s).2 = _))
    cases he : edge s.2 x with
    | false => exact ⟨by show s.2 = addL s.2 x; unfold addL; rw [he]; rfl, .inl ⟨rfl, rfl⟩⟩
    | true =>
      obtain ⟨i, h1, h2⟩ := edge_one he
      exact ⟨rfl, .inr ⟨rfl, by show cnt (addL s.2 x) = _; rw [h2, cnt_set h1]⟩⟩
theorem foldC_eq (n : Net) (ks : List Int) : ∀ s : Bool × List Bool, (ks.foldl (addC n) s).2 = pass n ks s.2 ∧ (((ks.foldl (addC n) s).1 = s.1 ∧ (ks.foldl (addC n) s).2 = s.2) ∨ ((ks.foldl (addC n) s).1 = true ∧ cnt s.2 < cnt (ks.foldl (addC n) s).2)) := by
  unfold pass
  induction ks with
  | nil => exact fun s => ⟨rfl, .inl ⟨rfl, rfl⟩⟩
  | cons k ks ih =>
    intro s
    obtain ⟨a1, a2⟩ := addC_eq n s k
    obtain ⟨b1, b2⟩ := ih (addC n s k)
    rw [List.foldl_cons, List.foldl_cons, ← a1]
    refine ⟨b1, ?_⟩
    rcases a2 with ⟨a2, a3⟩ | ⟨a2, a3⟩
    · rcases b2 with ⟨b2, b3⟩ | ⟨b2, b3⟩
      · exact .inl ⟨b2.trans a2, b3.trans a3⟩
      · exact .inr ⟨b2, by rw [a3] at b3; exact b3⟩
    · rcases b2 with ⟨b2, b3⟩ | ⟨b2, b3⟩
      · exact .inr ⟨b2.trans a2, by rw [b3, a3]; omega⟩
      · exact .inr ⟨b2, by omega⟩
theorem inner {n : Net} {ks : List Int} (hl : n.2.1.length ≤ 1048576) (hk : ks.length ≤ 1048576) (c : Bool) (l : List Bool) (h : l.length ≤ 1048576) :
    loop (fun z => impl_Joined_l2 n ks z.1 z.2.1 z.2.2) (c, 0, l) = some (ks.foldl (addC n) (c, l)) := by
  obtain ⟨v, h1, rfl⟩ := loop_inv (step := fun z : Bool × Int × List Bool => impl_Joined_l2 n ks z.1 z.2.1 z.2.2) (fun k z => z.2.1 = (k : Int) ∧ (z.1, z.2.2) = (ks.take k).foldl (addC n) (c, l) ∧ z.2.2.length = l.length) ks.length (fun v => v = ks.foldl (addC n) (c, l))
    (fun k z hk' ⟨e1, e2, e3⟩ => by
      obtain ⟨t, i, m⟩ := z
      simp only at e1 e2 e3
      subst e1
      left
      refine ⟨((addC n (t, m) ks[k]).1, ((k + 1 : Nat) : Int), (addC n (t, m) ks[k]).2), ?_, rfl, ?_, by show (addC n (t, m) ks[k]).2.length = _; rw [addC_len]; exact e3⟩
      · show impl_Joined_l2 n ks t (k : Int) m = _
        unfold impl_Joined_l2
        rw [dlt (by omega), cond_true, at_nat hk', Option.bind_some, inT, Option.bind_some, w64_nat (by omega), w64_id (n := (n.2.1.length : Int) - 1) (by omega) (by omega)]
        unfold addC linkOf
        cases hin : pIn ks[k] 0 ((n.2.1.length : Int) - 1) with
        | false => rfl
        | true =>
          obtain ⟨j, hj, ej, aj⟩ := in_at hin
          rw [Bool.not_true, cond_false, cond_true, aj, Option.bind_some, w64_id (n := (m.length : Int) - 1) (by omega) (by omega)]
          simp only [inT, Option.bind_some]
          show _ = some (Sum.inl ((cond (edge m n.2.1[j]) (true, addL m n.2.1[j]) (t, m)).1, ((k + 1 : Nat) : Int), (cond (edge m n.2.1[j]) (true, addL m n.2.1[j]) (t, m)).2))
          generalize n.2.1[j] = x
          cases h1 : pIn x.1 0 ((m.length : Int) - 1) with
          | false => rw [show edge m x = false by unfold edge; rw [h1]; rfl]; rfl
          | true =>
            cases h2 : pIn x.2.2.1 0 ((m.length : Int) - 1) with
            | false => rw [show edge m x = false by unfold edge; rw [h1, h2]; rfl]; rfl
            | true =>
              obtain ⟨a, ha, ea⟩ := in_nat h1
              obtain ⟨b, hb, eb⟩ := in_nat h2
              have hed : edge m x = !(m[a] == m[b]) := by unfold edge; rw [h1, h2, ea, eb, Int.toNat_natCast, Int.toNat_natCast, getD_nat ha, getD_nat hb]; rfl
              have had : edge m x = true → addL m x = (m.set a true).set b true := by intro h; unfold addL; rw [h, ea, eb]; rfl
              rw [ea, eb]
              simp only [cond_true, Option.bind_some, ix_nat ha, ix_nat hb, List.getElem?_eq_getElem ha, List.getElem?_eq_getElem hb, List.length_set, ← hed]
              cases he : edge m x with
              | false => rfl
              | true =>
                rw [had he]
                simp only [cond_true]
                rw [List.getElem?_eq_getElem (show b < (m.set a true).length by rw [List.length_set]; exact hb), Option.bind_some]
      · show addC n (t, m) ks[k] = _
        rw [List.take_add_one, List.getElem?_eq_getElem hk', List.foldl_append, ← e2]; rfl)
    (fun z ⟨e1, e2, e3⟩ => by
      obtain ⟨t, i, m⟩ := z
      simp only at e1 e2 e3
      subst e1
      rw [List.take_length] at e2
      refine ⟨(t, m), ?_, e2⟩
      show impl_Joined_l2 n ks t _ m = _
      unfold impl_Joined_l2
      rw [dnlt (by omega), cond_false]) (x := (c, 0, l)) ⟨rfl, rfl, rfl⟩
  exact h1
/-- As often as something turns: then all is there that would be there behind one pass for each bridge. -/
theorem outer {n : Net} {ks : List Int} (hl : n.2.1.length ≤ 1048576) (hk : ks.length ≤ 1048576) (l : List Bool) (h : l.length ≤ 1048576) (h0 : 1 ≤ cnt l) :
    loop (fun z => impl_Joined_l0 n ks z.1 z.2) (true, l) = some (passN n ks l l.length) := by
  obtain ⟨v, h1, rfl⟩ := loop_inv (step := fun z : Bool × List Bool => impl_Joined_l0 n ks z.1 z.2) (fun k z => z.2 = passN n ks l k ∧ (z.1 = true → k + 1 ≤ cnt z.2) ∧ (z.1 = false → pass n ks z.2 = z.2)) l.length (fun v => v = passN n ks l l.length)
    (fun k z hk' ⟨e1, e2, e3⟩ => by
      obtain ⟨t, m⟩ := z
      simp only at e1 e2 e3
      have hm : m.length = l.length := by rw [e1, passN_len]
      cases t with
      | false =>
        right
        refine ⟨m, rfl, ?_⟩
        have e := e3 rfl
        rw [e1] at e
        have := passN_fix e (l.length - k)
        rw [show k + (l.length - k) = l.length by omega] at this
        rw [this]; exact e1
      | true =>
        left
        have hc := e2 rfl
        refine ⟨ks.foldl (addC n) (false, m), ?_, ?_⟩
        · show impl_Joined_l0 n ks true m = _
          unfold impl_Joined_l0
          rw [cond_true, inner hl hk false m (by omega), Option.bind_some]
        · obtain ⟨b1, b2⟩ := foldC_eq n ks (false, m)
          refine ⟨by rw [b1]; show pass n ks m = pass n ks (passN n ks l k); rw [e1], fun ht => ?_, fun hf => ?_⟩
          · rcases b2 with ⟨b2, _⟩ | ⟨_, b3⟩
            · rw [b2] at ht; cases ht
            · have b3' : cnt m < _ := b3
              omega
          · rcases b2 with ⟨_, b3⟩ | ⟨b2, _⟩
            · rw [b3]; exact b1.symm.trans b3
            · rw [b2] at hf; cases hf)
    (fun z ⟨e1, e2, e3⟩ => by
      obtain ⟨t, m⟩ := z
      simp only at e1 e2 e3
      have hm : m.length = l.length := by rw [e1, passN_len]
      cases t with
      | false => exact ⟨m, rfl, e1⟩
      | true =>
        have := e2 rfl
        have := cnt_le m
        omega) (x := (true, l)) ⟨rfl, fun _ => by show 0 + 1 ≤ cnt l; omega, fun h => by cases h⟩
  exact h1
end Go.V.W
