/- The law FnMibs: part of the proof that for every input it returns true. No condition. -/
import Derived.Test.YtloainegonlibaaDrawP
namespace Go.V.W
set_option linter.unusedVariables false
set_option linter.unusedSimpArgs false
/-! ### drawn addresses -/
def lt (a b : Fent) : Prop := a.1 < b.1 ∨ (a.1 = b.1 ∧ a.2.1 < b.2.1)
def same (a b : Fent) : Prop := a.1 = b.1 ∧ a.2.1 = b.2.1
theorem lt_trans {a b c : Fent} (h : lt a b) (k : lt b c) : lt a c := by unfold lt at *; omega
theorem lt_ne {a b : Fent} (h : lt a b) : ¬ same a b := by unfold lt same at *; omega
structure FB (l : List Fent) : Prop where
  e : ∀ x ∈ l, pFent x = true
  o : l.Pairwise lt
  n : l.length ≤ 12
theorem FB.ok {l : List Fent} (h : FB l) : pFdb l = true := by
  unfold pFdb
  have hn := h.n
  rw [decide_eq_true (show (l.length : Int) ≤ 12 by omega), Bool.and_true, Bool.not_eq_true']
  apply Bool.eq_false_iff.2
  intro ha
  obtain ⟨k, hk, hx⟩ := List.any_eq_true.1 ha
  have hk := List.mem_range.1 hk
  unfold bFent at hx
  simp only [List.getElem?_eq_getElem hk, h.e _ (List.getElem_mem hk), Bool.not_true, Bool.false_or, Bool.and_eq_true, decide_eq_true_eq] at hx
  obtain ⟨h0, hx⟩ := hx
  simp only [List.getElem?_eq_getElem (show k - 1 < l.length by omega), Bool.not_eq_true'] at hx
  have hl := List.pairwise_iff_getElem.1 h.o (k - 1) k (by omega) hk (by omega)
  unfold pBehind at hx
  simp only [Bool.or_eq_false_iff, Bool.and_eq_false_iff, decide_eq_false_iff_not, beq_eq_false_iff_ne] at hx
  unfold lt at hl
  omega
theorem okF {l : List Fent} (h : FB l) : spec_FdbOk l = some true := by
  have hn := h.n
  rw [fdbS (by omega), h.ok]
theorem FB.copy {l : List Fent} (h : FB l) : spec_l8Copy l = some l := by
  have hn := h.n
  unfold spec_l8Copy
  rw [app_small (by show 0 + l.length ≤ _; omega)]; rfl
theorem atF {l : List Fent} (hn : l.length < 9223372036854775807) (tag mac : Int) : ∃ r, spec_l8At l tag mac = some r ∧ ((r = -1 ∧ ∀ x ∈ l, ¬ (x.1 = tag ∧ x.2.1 = mac)) ∨ ∃ k : Nat, ∃ hk : k < l.length, r = (k : Int) ∧ l[k].1 = tag ∧ l[k].2.1 = mac) := by
  obtain ⟨v, h1, h2⟩ := loop_inv (step := fun z => spec_l8At_l0 l tag mac z) (fun k i => i = (k : Int) ∧ ∀ x ∈ l.take k, ¬ (x.1 = tag ∧ x.2.1 = mac)) l.length (fun v => (v = .inl () ∧ ∀ x ∈ l, ¬ (x.1 = tag ∧ x.2.1 = mac)) ∨ ∃ k : Nat, ∃ hk : k < l.length, v = .inr (k : Int) ∧ l[k].1 = tag ∧ l[k].2.1 = mac)
    (fun k i hk ⟨e, hx⟩ => by
      subst e
      have hs : spec_l8At_l0 l tag mac (k : Int) = cond (l[k].1 == tag && l[k].2.1 == mac) (some (.inr (.inr (k : Int)))) (some (.inl ((k + 1 : Nat) : Int))) := by
        unfold spec_l8At_l0
        simp only [dlt (show (k : Int) < (l.length : Int) by omega), cond_true, at_nat hk, Option.bind_some, w64_nat (show k < 9223372036854775807 by omega)]
        cases l[k].1 == tag <;> rfl
      cases hb : (l[k].1 == tag && l[k].2.1 == mac) with
      | true =>
        simp only [Bool.and_eq_true, beq_iff_eq] at hb
        refine .inr ⟨_, by rw [hs]; rw [show (l[k].1 == tag && l[k].2.1 == mac) = true by simp [hb.1, hb.2]]; rfl, .inr ⟨k, hk, rfl, hb.1, hb.2⟩⟩
      | false =>
        refine .inl ⟨_, by rw [hs, hb]; rfl, rfl, fun x hx' => ?_⟩
        rw [List.take_add_one, List.getElem?_eq_getElem hk, List.mem_append] at hx'
        rcases hx' with hx' | hx'
        · exact hx x hx'
        · simp at hx'
          subst hx'
          intro ⟨q1, q2⟩
          rw [q1, q2] at hb
          simp at hb)
    (fun i ⟨e, hx⟩ => by
      subst e
      rw [List.take_length] at hx
      refine ⟨.inl (), ?_, .inl ⟨rfl, hx⟩⟩
      show spec_l8At_l0 l tag mac _ = _
      unfold spec_l8At_l0
      rw [dnlt (by omega), cond_false]) (x := 0) ⟨rfl, by simp⟩
  unfold spec_l8At
  rw [h1, Option.bind_some]
  rcases h2 with ⟨rfl, h2⟩ | ⟨k, hk, rfl, h2⟩
  · exact ⟨_, rfl, .inl ⟨rfl, h2⟩⟩
  · exact ⟨_, rfl, .inr ⟨k, hk, rfl, h2⟩⟩
def aheadB (x e : Fent) : Bool := cond (x.1 != e.1) (decide (x.1 < e.1)) (decide (x.2.1 < e.2.1))
theorem ahead_lt {x e : Fent} (h : aheadB x e = true) : lt x e := by
  unfold aheadB at h
  unfold lt
  by_cases hx : x.1 = e.1
  · rw [show (x.1 != e.1) = false by simp [hx], cond_false] at h
    exact .inr ⟨hx, of_decide_eq_true h⟩
  · rw [show (x.1 != e.1) = true from bne_iff_ne.2 hx, cond_true] at h
    exact .inl (of_decide_eq_true h)
theorem not_ahead {x e : Fent} (h : aheadB x e = false) : lt e x ∨ same x e := by
  unfold aheadB at h
  unfold lt same
  by_cases hx : x.1 = e.1
  · rw [show (x.1 != e.1) = false by simp [hx], cond_false] at h
    have := of_decide_eq_false h
    omega
  · rw [show (x.1 != e.1) = true from bne_iff_ne.2 hx, cond_true] at h
    have := of_decide_eq_false h
    omega
def otherB (x e : Fent) : Bool := x.1 != e.1 || x.2.1 != e.2.1
theorem other_true {x e : Fent} (h : otherB x e = true) : ¬ same x e := by
  unfold otherB at h; unfold same
  simp only [Bool.or_eq_true, bne_iff_ne] at h
  omega
theorem other_false {x e : Fent} (h : otherB x e = false) : same x e := by
  unfold otherB at h; unfold same
  simp only [Bool.or_eq_false_iff, bne_eq_false_iff_eq] at h
  exact h
theorem pair_snoc {l : List Fent} {x : Fent} (h : l.Pairwise lt) (k : ∀ y ∈ l, lt y x) : (l ++ [x]).Pairwise lt := by
  rw [List.pairwise_append]
  exact ⟨h, List.pairwise_singleton _ _, fun a ha b hb => by simp at hb; subst hb; exact k a ha⟩
/-- Put in its place. -/
theorem putF {l : List Fent} (h : FB l) {e : Fent} (he : pFent e = true) (hroom : (∃ x ∈ l, same x e) ∨ l.length < 12) : ∃ y, spec_l8Put l e = some y ∧ FB y := by
  have hn := h.n
  have hlt : ∀ i j (hi : i < l.length) (hj : j < l.length), i < j → lt l[i] l[j] := List.pairwise_iff_getElem.1 h.o
  obtain ⟨d, hd, g⟩ := loop_inv (step := fun z : Bool × Int × List Fent => spec_l8Put_l0 l e z.1 z.2.1 z.2.2)
    (fun k z => z.2.1 = (k : Int) ∧ (∀ x ∈ z.2.2, pFent x = true) ∧ z.2.2.Pairwise lt ∧
      (z.1 = false → z.2.2 = l.take k ∧ ∀ x ∈ l.take k, lt x e) ∧
      (z.1 = true → (∀ x ∈ z.2.2, ∀ j (hj : j < l.length), k ≤ j → lt x l[j]) ∧ (∀ j (hj : j < l.length), k ≤ j → lt e l[j]) ∧ z.2.2.length ≤ k + 1 ∧ ((∃ x ∈ l.take k, same x e) → z.2.2.length ≤ k))) l.length
    (fun d => (∀ x ∈ d.2, pFent x = true) ∧ d.2.Pairwise lt ∧ (d.1 = false → d.2 = l ∧ ∀ x ∈ l, lt x e) ∧ (d.1 = true → d.2.length ≤ l.length + 1 ∧ ((∃ x ∈ l, same x e) → d.2.length ≤ l.length)))
    (fun k z hk ⟨e1, e2, e3, e4, e5⟩ => by
      obtain ⟨t, i, b⟩ := z
      simp only at e1 e2 e3 e4 e5
      subst e1
      left
      have hf : pFent l[k] = true := h.e _ (List.getElem_mem hk)
      have hbl : b.length ≤ 100 := by
        cases t with
        | false => rw [(e4 rfl).1, List.length_take]; omega
        | true => have := (e5 rfl).2.2.1; omega
      have ha : ∀ (xs : List Fent) (y : Fent), xs.length ≤ 101 → app xs [y] = some (xs ++ [y]) := fun xs y h => app_small (by show xs.length + 1 ≤ _; omega)
      have htk : l.take (k + 1) = l.take k ++ [l[k]] := by rw [List.take_add_one, List.getElem?_eq_getElem hk]; rfl
      have hs : spec_l8Put_l0 l e t (k : Int) b = cond (!t && !(aheadB l[k] e))
          (cond (otherB l[k] e) (some (.inl (true, ((k + 1 : Nat) : Int), b ++ [e] ++ [l[k]]))) (some (.inl (true, ((k + 1 : Nat) : Int), b ++ [e]))))
          (cond (otherB l[k] e) (some (.inl (t, ((k + 1 : Nat) : Int), b ++ [l[k]]))) (some (.inl (t, ((k + 1 : Nat) : Int), b)))) := by
        have hA : spec_l8Ahead l[k] e.1 e.2.1 = some (aheadB l[k] e) := by unfold spec_l8Ahead aheadB; cases (l[k].1 != e.1) <;> rfl
        have hO : (cond (l[k].1 != e.1) (some true) (some (l[k].2.1 != e.2.1))) = some (otherB l[k] e) := by unfold otherB; cases (l[k].1 != e.1) <;> rfl
        unfold spec_l8Put_l0
        simp only [dlt (show (k : Int) < (l.length : Int) by omega), cond_true, at_nat hk, Option.bind_some, w64_nat (show k < 9223372036854775807 by omega), hA, hO, ha b e (by omega), ha b l[k] (by omega), ha (b ++ [e]) l[k] (by rw [List.length_append]; show b.length + 1 ≤ _; omega)]
        cases t <;> cases aheadB l[k] e <;> rfl
      show ∃ y, spec_l8Put_l0 l e t (k : Int) b = _ ∧ _
      rw [hs]
      cases t with
      | false =>
        obtain ⟨f1, f2⟩ := e4 rfl
        subst f1
        cases hah : aheadB l[k] e with
        | true =>
          have hl := ahead_lt hah
          have ho : otherB l[k] e = true := by
            cases ho : otherB l[k] e with
            | true => rfl
            | false => exact absurd (other_false ho) (lt_ne hl)
          rw [ho]
          refine ⟨_, rfl, rfl, fun x hx => ?_, ?_, fun _ => ⟨by show l.take k ++ [l[k]] = _; rw [htk], fun x hx => ?_⟩, (fun ht => by cases ht)⟩
          · have hx : x ∈ l.take k ++ [l[k]] := hx
            rcases List.mem_append.1 hx with hx | hx
            · exact e2 x hx
            · simp at hx; subst hx; exact hf
          · show (l.take k ++ [l[k]]).Pairwise lt
            rw [← htk]; exact List.Pairwise.sublist (List.take_sublist _ _) h.o
          · rw [htk] at hx
            rcases List.mem_append.1 hx with hx | hx
            · exact f2 x hx
            · simp at hx; subst hx; exact hl
        | false =>
          have hge := not_ahead hah
          have hpe : (l.take k ++ [e]).Pairwise lt := pair_snoc e3 f2
          have hee : ∀ x ∈ l.take k ++ [e], pFent x = true := fun x hx => by
            rcases List.mem_append.1 hx with hx | hx
            · exact e2 x hx
            · simp at hx; subst hx; exact he
          have hlater : ∀ j (hj : j < l.length), k + 1 ≤ j → lt e l[j] := fun j hj hkj => by
            have h1 := hlt k j hk hj (by omega)
            rcases hge with h2 | h2
            · exact lt_trans h2 h1
            · unfold same at h2; unfold lt at h1 ⊢; omega
          have htl : ∀ x ∈ l.take k, ∀ j (hj : j < l.length), k + 1 ≤ j → lt x l[j] := fun x hx j hj hkj => lt_trans (f2 x hx) (hlater j hj hkj)
          have hlen : (l.take k).length = k := by rw [List.length_take]; omega
          cases ho : otherB l[k] e with
          | true =>
            have hek : lt e l[k] := by
              rcases hge with h2 | h2
              · exact h2
              · exact absurd h2 (other_true ho)
            refine ⟨_, rfl, rfl, fun x hx => ?_, ?_, (fun ht => by cases ht), fun _ => ⟨fun x hx j hj hkj => ?_, hlater, ?_, fun ⟨x, hx, hxe⟩ => ?_⟩⟩
            · have hx : x ∈ l.take k ++ [e] ++ [l[k]] := hx
              rcases List.mem_append.1 hx with hx | hx
              · exact hee x hx
              · simp at hx; subst hx; exact hf
            · show (l.take k ++ [e] ++ [l[k]]).Pairwise lt
              refine pair_snoc hpe fun y hy => ?_
              rcases List.mem_append.1 hy with hy | hy
              · exact lt_trans (f2 y hy) hek
              · simp at hy; subst hy; exact hek
            · have hx : x ∈ l.take k ++ [e] ++ [l[k]] := hx
              rcases List.mem_append.1 hx with hx | hx
              · rcases List.mem_append.1 hx with hx | hx
                · exact htl x hx j hj hkj
                · simp at hx; subst hx; exact hlater j hj hkj
              · simp at hx; subst hx; exact hlt k j hk hj (by omega)
            · show (l.take k ++ [e] ++ [l[k]]).length ≤ _
              simp only [List.length_append, hlen, List.length_singleton]; omega
            · rw [htk] at hx
              rcases List.mem_append.1 hx with hx | hx
              · exact absurd hxe (lt_ne (f2 x hx))
              · simp at hx; subst hx; exact absurd hxe (other_true ho)
          | false =>
            refine ⟨_, rfl, rfl, hee, hpe, (fun ht => by cases ht), fun _ => ⟨fun x hx j hj hkj => ?_, hlater, ?_, fun _ => ?_⟩⟩
            · have hx : x ∈ l.take k ++ [e] := hx
              rcases List.mem_append.1 hx with hx | hx
              · exact htl x hx j hj hkj
              · simp at hx; subst hx; exact hlater j hj hkj
            · show (l.take k ++ [e]).length ≤ _
              simp only [List.length_append, hlen, List.length_singleton]; omega
            · show (l.take k ++ [e]).length ≤ _
              simp only [List.length_append, hlen, List.length_singleton]; omega
      | true =>
        obtain ⟨f1, f2, f3, f4⟩ := e5 rfl
        cases ho : otherB l[k] e with
        | true =>
          refine ⟨_, rfl, rfl, fun x hx => ?_, pair_snoc e3 fun y hy => f1 y hy k hk (Nat.le_refl _), (fun ht => by cases ht), fun _ => ⟨fun x hx j hj hkj => ?_, fun j hj hkj => f2 j hj (by omega), ?_, fun ⟨x, hx, hxe⟩ => ?_⟩⟩
          · have hx : x ∈ b ++ [l[k]] := hx
            rcases List.mem_append.1 hx with hx | hx
            · exact e2 x hx
            · simp at hx; subst hx; exact hf
          · have hx : x ∈ b ++ [l[k]] := hx
            rcases List.mem_append.1 hx with hx | hx
            · exact f1 x hx j hj (by omega)
            · simp at hx; subst hx; exact hlt k j hk hj (by omega)
          · show (b ++ [l[k]]).length ≤ _
            rw [List.length_append]; show b.length + 1 ≤ _; omega
          · show (b ++ [l[k]]).length ≤ _
            rw [htk] at hx
            rcases List.mem_append.1 hx with hx | hx
            · have := f4 ⟨x, hx, hxe⟩
              rw [List.length_append]; show b.length + 1 ≤ _; omega
            · simp at hx; subst hx; exact absurd hxe (other_true ho)
        | false =>
          exact ⟨_, rfl, rfl, e2, e3, (fun ht => by cases ht), fun _ => ⟨fun x hx j hj hkj => f1 x hx j hj (by omega), fun j hj hkj => f2 j hj (by omega), by show b.length ≤ _; omega, fun _ => by show b.length ≤ _; omega⟩⟩)
    (fun z ⟨e1, e2, e3, e4, e5⟩ => by
      obtain ⟨t, i, b⟩ := z
      simp only at e1 e2 e3 e4 e5
      subst e1
      rw [List.take_length] at e4 e5
      refine ⟨(t, b), ?_, e2, e3, e4, fun ht => ⟨(e5 ht).2.2.1, (e5 ht).2.2.2⟩⟩
      show spec_l8Put_l0 l e t _ b = _
      unfold spec_l8Put_l0
      rw [dnlt (by omega), cond_false]) (x := (false, 0, [])) ⟨rfl, fun x hx => absurd hx List.not_mem_nil, List.Pairwise.nil, fun _ => ⟨by simp, fun x hx => by simp at hx⟩, (fun ht => by cases ht)⟩
  obtain ⟨g1, g2, g3, g4⟩ := g
  unfold spec_l8Put
  rw [hd, Option.bind_some]
  obtain ⟨t, b⟩ := d
  simp only at g1 g2 g3 g4
  cases t with
  | true =>
    refine ⟨b, rfl, g1, g2, ?_⟩
    obtain ⟨k1, k2⟩ := g4 rfl
    rcases hroom with hr | hr
    · have := k2 hr; omega
    · omega
  | false =>
    obtain ⟨k1, k2⟩ := g3 rfl
    have hr : l.length < 12 := by
      rcases hroom with ⟨x, hx, hxe⟩ | hr
      · exact absurd hxe (lt_ne (k2 x hx))
      · exact hr
    show ∃ y, ((app b [e]).bind fun zs => some zs) = some y ∧ FB y
    rw [k1, app_small (by show l.length + 1 ≤ _; omega), Option.bind_some]
    refine ⟨_, rfl, fun x hx => ?_, pair_snoc h.o k2, by rw [List.length_append]; show l.length + 1 ≤ 12; omega⟩
    rcases List.mem_append.1 hx with hx | hx
    · exact h.e x hx
    · simp at hx; subst hx; exact he
theorem entF (e : Fent) : spec_l8Ent e = some (pFent e) := by rw [fentS]; exact fentT e
theorem learnF {l : List Fent} (h : FB l) (tag mac port : Int) : ∃ y, spec_Learn l tag mac port = some y ∧ FB y := by
  have hn := h.n
  obtain ⟨r, hr, hr2⟩ := atF (l := l) (by omega) tag mac
  unfold spec_Learn
  rw [hr, Option.bind_some, okF h, Option.bind_some, entF, Option.bind_some, h.copy, Option.bind_some, Bool.not_true, cond_false, Option.bind_some]
  cases he : pFent (tag, mac, port, 0, false) with
  | false => exact ⟨_, rfl, h⟩
  | true =>
    rcases hr2 with ⟨rfl, hr2⟩ | ⟨k, hk, rfl, q1, q2⟩
    · rw [Bool.not_true, cond_false]
      by_cases hlen : l.length < 12
      · obtain ⟨y, hy, hy2⟩ := putF h he (.inr hlen)
        refine ⟨y, ?_, hy2⟩
        rw [hy]
        show (cond (decide ((l.length : Int) ≥ 12)) _ _) = _
        rw [decide_eq_false (by omega)]; rfl
      · refine ⟨l, ?_, h⟩
        show (cond (decide ((l.length : Int) ≥ 12)) _ _) = _
        rw [decide_eq_true (by omega)]; rfl
    · simp only [Bool.not_true, cond_false, decide_eq_true (show (k : Int) ≥ 0 by omega), cond_true, at_nat hk, Option.bind_some, dnlt (show ¬ (k : Int) < 0 by omega)]
      obtain ⟨y, hy, hy2⟩ := putF h he (.inl ⟨l[k], List.getElem_mem hk, q1, q2⟩)
      cases l[k].2.2.2.2 with
      | true => exact ⟨_, rfl, h⟩
      | false => exact ⟨y, by rw [hy]; rfl, hy2⟩
theorem staticF {l : List Fent} (h : FB l) (tag mac port : Int) : ∃ y ok, spec_SetStatic l tag mac port = some (y, ok) ∧ FB y := by
  have hn := h.n
  obtain ⟨r, hr, hr2⟩ := atF (l := l) (by omega) tag mac
  unfold spec_SetStatic
  rw [hr, Option.bind_some, okF h, Option.bind_some, entF, Option.bind_some, h.copy, Option.bind_some, Bool.not_true, cond_false, Option.bind_some]
  cases he : pFent (tag, mac, port, 0, true) with
  | false => exact ⟨_, _, rfl, h⟩
  | true =>
    rcases hr2 with ⟨rfl, hr2⟩ | ⟨k, hk, rfl, q1, q2⟩
    · rw [Bool.not_true, cond_false]
      by_cases hlen : l.length < 12
      · obtain ⟨y, hy, hy2⟩ := putF h he (.inr hlen)
        refine ⟨y, true, ?_, hy2⟩
        rw [hy]
        show (cond (decide ((l.length : Int) ≥ 12)) _ _) = _
        rw [decide_eq_false (by omega)]; rfl
      · refine ⟨l, false, ?_, h⟩
        show (cond (decide ((l.length : Int) ≥ 12)) _ _) = _
        rw [decide_eq_true (by omega)]; rfl
    · rw [Bool.not_true, cond_false, dnlt (show ¬ (k : Int) < 0 by omega), cond_false, Option.bind_some]
      obtain ⟨y, hy, hy2⟩ := putF h he (.inl ⟨l[k], List.getElem_mem hk, q1, q2⟩)
      rw [Option.bind_some, cond_false, hy]
      exact ⟨y, true, rfl, hy2⟩
end Go.V.W
