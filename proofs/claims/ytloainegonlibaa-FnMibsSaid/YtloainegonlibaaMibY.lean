/- The law FnMibs: part of the proof that for every input it returns true. No condition. -/
import Derived.Test.YtloainegonlibaaMibX
namespace Go.V.W
set_option linter.unusedVariables false
set_option linter.unusedSimpArgs false
/-! ### names rise -/
theorem adj_pair {α : Type} {R : α → α → Prop} (tr : ∀ a b c, R a b → R b c → R a c) {l : List α} (h : ∀ k (hk : k + 1 < l.length), R l[k] l[k + 1]) : l.Pairwise R := by
  rw [List.pairwise_iff_getElem]
  intro i j hi hj hij
  induction j with
  | zero => omega
  | succ j ih =>
    by_cases e : i = j
    · subst e; exact h i hj
    · exact tr _ _ _ (ih (by omega) (by omega)) (h j hj)
def Head (g c : Int) (x : Bind) : Prop := ∃ t, x.1 = 1 :: 3 :: 1 :: g :: c :: t
theorem head_lt {g c g' c' : Int} {x y : Bind} (hx : Head g c x) (hy : Head g' c' y) (h : g < g' ∨ (g = g' ∧ c < c')) : x.1 < y.1 := by
  obtain ⟨t, ht⟩ := hx
  obtain ⟨s, hs⟩ := hy
  rw [ht, hs]
  simp only [List.cons_lt_cons_iff, Int.lt_irrefl, false_or, true_and]
  rcases h with h | ⟨h, k⟩
  · exact .inl h
  · exact .inr ⟨h, .inl k⟩
theorem portG_head {b : Bridge} {c : Nat} {x : Bind} (h : x ∈ portG b c) : Head 2 ((c + 1 : Nat) : Int) x := by
  unfold portG at h
  obtain ⟨k, _, rfl⟩ := List.mem_map.1 h
  exact ⟨_, rfl⟩
theorem rowG_head {b : Bridge} {c : Nat} {x : Bind} (h : x ∈ rowG b c) : Head 3 ((c + 1 : Nat) : Int) x := by
  unfold rowG at h
  obtain ⟨k, _, rfl⟩ := List.mem_map.1 h
  exact ⟨_, rfl⟩
theorem fdbG_head {b : Bridge} {x : Bind} (h : x ∈ fdbG b) : Head 4 1 x := by
  unfold fdbG at h
  obtain ⟨k, _, rfl⟩ := List.mem_map.1 h
  exact ⟨_, rfl⟩
theorem mib5_head {b : Bridge} {x : Bind} (h : x ∈ mib5 b) : ∃ c, Head 1 c x := by
  unfold mib5 at h
  simp only [List.mem_cons, List.not_mem_nil, or_false] at h
  rcases h with rfl | rfl | rfl | rfl | rfl <;> exact ⟨_, _, rfl⟩
theorem ports_pair (b : Bridge) (c : Nat) : (portG b c).Pairwise fun x y => x.1 < y.1 := by
  unfold portG
  rw [List.pairwise_map]
  refine List.Pairwise.imp ?_ List.pairwise_lt_range
  intro i j h
  show (1 :: 3 :: 1 :: 2 :: ((c + 1 : Nat) : Int) :: ((i + 1 : Nat) : Int) :: []) < (1 :: 3 :: 1 :: 2 :: ((c + 1 : Nat) : Int) :: ((j + 1 : Nat) : Int) :: [])
  simp only [List.cons_lt_cons_iff, Int.lt_irrefl, false_or, true_and]
  exact .inl (by omega)
theorem rows_rise {b : Bridge} (h : BOk b) : b.2.2.2.2.1.Pairwise fun r s => r.1 < s.1 := by
  refine adj_pair (R := fun (r s : Vrow) => r.1 < s.1) (fun _ _ _ h k => Int.lt_trans h k) fun k hk => ?_
  have hv := h.v
  unfold pVtab at hv
  simp only [Bool.and_eq_true, Bool.not_eq_true'] at hv
  have hx := List.any_eq_false.1 hv.2.1 (k + 1) (List.mem_range.2 hk)
  unfold bRow at hx
  simp only [List.getElem?_eq_getElem hk, Nat.add_sub_cancel, List.getElem?_eq_getElem (show k < b.2.2.2.2.1.length by omega), Bool.or_eq_true, Bool.and_eq_true, decide_eq_true_eq, not_or, not_and] at hx
  have := hx.2.1 (by omega)
  omega
theorem rows_pair {b : Bridge} (h : BOk b) (c : Nat) : (rowG b c).Pairwise fun x y => x.1 < y.1 := by
  unfold rowG
  rw [List.pairwise_map]
  refine List.Pairwise.imp ?_ (rows_rise h)
  intro r s h
  show (1 :: 3 :: 1 :: 3 :: ((c + 1 : Nat) : Int) :: r.1 :: []) < (1 :: 3 :: 1 :: 3 :: ((c + 1 : Nat) : Int) :: s.1 :: [])
  simp only [List.cons_lt_cons_iff, Int.lt_irrefl, false_or, true_and]
  exact .inl h
theorem fdb_rise {b : Bridge} (h : BOk b) : b.2.2.2.1.Pairwise lt := by
  refine adj_pair (R := lt) (fun _ _ _ => lt_trans) fun k hk => ?_
  have hv := h.f
  unfold pFdb at hv
  simp only [Bool.and_eq_true, Bool.not_eq_true'] at hv
  have hx := List.any_eq_false.1 hv.1 (k + 1) (List.mem_range.2 hk)
  unfold bFent at hx
  simp only [List.getElem?_eq_getElem hk, Nat.add_sub_cancel, List.getElem?_eq_getElem (show k < b.2.2.2.1.length by omega), Bool.or_eq_true, Bool.and_eq_true, decide_eq_true_eq, not_or, not_and, Bool.not_eq_true', Bool.not_eq_false] at hx
  have hp := hx.2 (by omega)
  unfold pBehind at hp
  simp only [Bool.or_eq_true, Bool.and_eq_true, decide_eq_true_eq, beq_iff_eq] at hp
  unfold lt
  omega
theorem fdb_pair {b : Bridge} (h : BOk b) : (fdbG b).Pairwise fun x y => x.1 < y.1 := by
  unfold fdbG
  rw [List.pairwise_map]
  refine List.Pairwise.imp ?_ (fdb_rise h)
  intro r s h
  show (1 :: 3 :: 1 :: 4 :: 1 :: r.1 :: r.2.1 :: []) < (1 :: 3 :: 1 :: 4 :: 1 :: s.1 :: s.2.1 :: [])
  unfold lt at h
  simp only [List.cons_lt_cons_iff, Int.lt_irrefl, false_or, true_and]
  rcases h with h | ⟨h, k⟩
  · exact .inl h
  · exact .inr ⟨h, .inl k⟩
theorem mib5_pair (b : Bridge) : (mib5 b).Pairwise fun x y => x.1 < y.1 := by
  unfold mib5
  simp only [List.pairwise_cons, List.mem_cons, List.not_mem_nil, or_false, forall_eq_or_imp, forall_eq, List.Pairwise.nil, and_true, false_imp_iff, implies_true, List.cons_lt_cons_iff, Int.lt_irrefl, false_or, true_and]
  refine ⟨⟨.inl (by decide), .inl (by decide), .inl (by decide), .inl (by decide)⟩, ⟨.inl (by decide), .inl (by decide), .inl (by decide)⟩, ⟨.inl (by decide), .inl (by decide)⟩, .inl (by decide)⟩
theorem flat4 {α : Type} (f : Nat → List α) : (List.range 4).flatMap f = f 0 ++ (f 1 ++ (f 2 ++ (f 3 ++ []))) := rfl
theorem flat3 {α : Type} (f : Nat → List α) : (List.range 3).flatMap f = f 0 ++ (f 1 ++ (f 2 ++ [])) := rfl
theorem group_pair {n : Nat} {f : Nat → List Bind} {g : Int} (hp : ∀ c, (f c).Pairwise fun x y => x.1 < y.1) (hh : ∀ c x, x ∈ f c → Head g ((c + 1 : Nat) : Int) x) : ((List.range n).flatMap f).Pairwise fun x y => x.1 < y.1 := by
  induction n with
  | zero => exact List.Pairwise.nil
  | succ n ih =>
    rw [List.range_succ, List.flatMap_append, List.pairwise_append]
    refine ⟨ih, by simp; exact hp n, fun x hx y hy => ?_⟩
    obtain ⟨c, hc, hx⟩ := List.mem_flatMap.1 hx
    have hc := List.mem_range.1 hc
    simp at hy
    exact head_lt (hh c x hx) (hh n y hy) (.inr ⟨rfl, by omega⟩)
theorem mib_pair {b : Bridge} (h : BOk b) : (mib b).Pairwise fun x y => x.1 < y.1 := by
  unfold mib
  rw [List.pairwise_append, List.pairwise_append, List.pairwise_append]
  refine ⟨⟨⟨mib5_pair b, group_pair (ports_pair b) (fun c x => portG_head), fun x hx y hy => ?_⟩, group_pair (rows_pair h) (fun c x => rowG_head), fun x hx y hy => ?_⟩, fdb_pair h, fun x hx y hy => ?_⟩
  · obtain ⟨c, hc⟩ := mib5_head hx
    obtain ⟨d, _, hy⟩ := List.mem_flatMap.1 hy
    exact head_lt hc (portG_head hy) (.inl (by decide))
  · obtain ⟨d, _, hy⟩ := List.mem_flatMap.1 hy
    rcases List.mem_append.1 hx with hx | hx
    · obtain ⟨c, hc⟩ := mib5_head hx
      exact head_lt hc (rowG_head hy) (.inl (by decide))
    · obtain ⟨e, _, hx⟩ := List.mem_flatMap.1 hx
      exact head_lt (portG_head hx) (rowG_head hy) (.inl (by decide))
  · rcases List.mem_append.1 hx with hx | hx
    · rcases List.mem_append.1 hx with hx | hx
      · obtain ⟨c, hc⟩ := mib5_head hx
        exact head_lt hc (fdbG_head hy) (.inl (by decide))
      · obtain ⟨e, _, hx⟩ := List.mem_flatMap.1 hx
        exact head_lt (portG_head hx) (fdbG_head hy) (.inl (by decide))
    · obtain ⟨e, _, hx⟩ := List.mem_flatMap.1 hx
      exact head_lt (rowG_head hx) (fdbG_head hy) (.inl (by decide))
/-! ### one name ahead of another -/
theorem lex_at (p s t : List Int) {x y : Int} (h : x ≠ y) : (p ++ x :: s < p ++ y :: t) ↔ x < y := by
  induction p with
  | nil =>
    simp only [List.nil_append, List.cons_lt_cons_iff]
    exact ⟨fun k => k.elim id fun k => absurd k.1 h, .inl⟩
  | cons a p ih => simp only [List.cons_append, List.cons_lt_cons_iff, ih, Int.lt_irrefl, false_or, true_and]
theorem lex_pre (p : List Int) {s : List Int} (h : s ≠ []) : p < p ++ s := by
  induction p with
  | nil => cases s with
    | nil => exact absurd rfl h
    | cons a s => exact List.nil_lt_cons a s
  | cons a p ih => simp only [List.cons_append, List.cons_lt_cons_iff, Int.lt_irrefl, false_or, true_and]; exact ih
theorem lex_suf (p s : List Int) : ¬ p ++ s < p := by
  induction p with
  | nil => exact List.not_lt_nil s
  | cons a p ih => simp only [List.cons_append, List.cons_lt_cons_iff, Int.lt_irrefl, false_or, true_and]; exact ih
theorem lessO {a b : List Int} (h : b.length < 9223372036854775807) : impl_LessOid a b = some (decide (a < b)) := by
  have hsplit : ∀ k, a.take k = b.take k → ∀ (ha : k < a.length) (hb : k < b.length), a = a.take k ++ a[k] :: a.drop (k + 1) ∧ b = a.take k ++ b[k] :: b.drop (k + 1) := by
    intro k e ha hb
    refine ⟨?_, ?_⟩
    · rw [← List.drop_eq_getElem_cons ha, List.take_append_drop]
    · rw [e, ← List.drop_eq_getElem_cons hb, List.take_append_drop]
  obtain ⟨v, h1, h2⟩ := loop_inv (step := fun z => impl_LessOid_l0 a b z) (fun k i => i = (k : Int) ∧ a.take k = b.take k) (min a.length b.length) (fun v => (v = .inr (decide (a < b))) ∨ (v = .inl () ∧ decide ((a.length : Int) < (b.length : Int)) = decide (a < b)))
    (fun k i hk ⟨e, ht⟩ => by
      subst e
      have ha : k < a.length := by omega
      have hb : k < b.length := by omega
      have hs : impl_LessOid_l0 a b (k : Int) = cond (a[k] != b[k]) (some (.inr (.inr (decide (a[k] < b[k]))))) (some (.inl ((k + 1 : Nat) : Int))) := by
        unfold impl_LessOid_l0
        rw [dlt (show (k : Int) < (a.length : Int) by omega), dlt (show (k : Int) < (b.length : Int) by omega), cond_true, Option.bind_some, cond_true, at_nat ha, Option.bind_some, at_nat hb, Option.bind_some, w64_nat (by omega), Option.bind_some, Option.bind_some]
      obtain ⟨s1, s2⟩ := hsplit k ht ha hb
      by_cases hne : a[k] = b[k]
      · refine .inl ⟨_, by rw [hs, show (a[k] != b[k]) = false by simp [hne]]; rfl, rfl, ?_⟩
        rw [List.take_add_one, List.take_add_one, List.getElem?_eq_getElem ha, List.getElem?_eq_getElem hb, ht, hne]
      · refine .inr ⟨_, by rw [hs, show (a[k] != b[k]) = true from bne_iff_ne.2 hne]; rfl, .inl ?_⟩
        congr 1
        apply decide_eq_decide.2
        have := lex_at (a.take k) (a.drop (k + 1)) (b.drop (k + 1)) hne
        rw [← s1, ← s2] at this
        exact this.symm)
    (fun i ⟨e, ht⟩ => by
      subst e
      refine ⟨.inl (), ?_, .inr ⟨rfl, ?_⟩⟩
      · show impl_LessOid_l0 a b _ = _
        unfold impl_LessOid_l0
        by_cases h : a.length ≤ b.length
        · rw [Nat.min_eq_left h, dnlt (by omega)]; rfl
        · rw [Nat.min_eq_right (by omega), dlt (by omega), dnlt (show ¬ (b.length : Int) < (b.length : Int) by omega)]; rfl
      · apply decide_eq_decide.2
        by_cases h : a.length ≤ b.length
        · rw [Nat.min_eq_left h, List.take_length] at ht
          have hb : b = a ++ b.drop a.length := by
            have := List.take_append_drop a.length b
            rw [← ht] at this; exact this.symm
          constructor
          · intro hlt
            have hd : b.drop a.length ≠ [] := by
              intro h0
              have := congrArg List.length h0
              rw [List.length_drop] at this
              simp at this; omega
            have := lex_pre a hd
            rw [← hb] at this; exact this
          · intro hlt
            by_cases he : a.length = b.length
            · have hd : b.drop a.length = [] := List.drop_eq_nil_of_le (by omega)
              rw [hd, List.append_nil] at hb
              rw [hb] at hlt
              exact absurd hlt (List.lt_irrefl _)
            · omega
        · rw [Nat.min_eq_right (by omega), List.take_length] at ht
          have ha : a = b ++ a.drop b.length := by
            have := List.take_append_drop b.length a
            rw [ht] at this; exact this.symm
          constructor
          · intro hlt; omega
          · intro hlt
            have := lex_suf b (a.drop b.length)
            rw [← ha] at this
            exact absurd hlt this) (x := 0) ⟨rfl, by simp⟩
  unfold impl_LessOid
  rw [h1, Option.bind_some]
  rcases h2 with rfl | ⟨rfl, h2⟩
  · rfl
  · show some (decide _) = _
    rw [h2]
end Go.V.W
