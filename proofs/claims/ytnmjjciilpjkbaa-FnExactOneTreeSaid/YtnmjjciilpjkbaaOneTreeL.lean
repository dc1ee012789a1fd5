/- The law FnExactOneTree: part of the proof that for every input it returns true. No condition. -/
import Derived.Test.YtnmjjciilpjkbaaTree
namespace Go.V.W
set_option linter.unusedVariables false
set_option linter.unusedSimpArgs false
theorem any_loop {n : Nat} {c : Int → Option Bool} {b : Nat → Bool} (r : Bool) (hn : n < 9223372036854775807) (hc : ∀ k, k < n → c (k : Int) = some (b k)) :
    loop (fun i : Int => cond (decide (i < (n : Int))) ((c i).bind fun t => cond t (some (.inr (.inr r))) (some (.inl (w64 (i + 1))))) (some (.inr (.inl ())))) 0 = some (cond ((List.range n).any b) (Sum.inr r) (Sum.inl ()) : Unit ⊕ Bool) := by
  obtain ⟨v, h1, h2⟩ := loop_inv (β := Unit ⊕ Bool) (step := fun i : Int => cond (decide (i < (n : Int))) ((c i).bind fun t => cond t (some (.inr (.inr r))) (some (.inl (w64 (i + 1))))) (some (.inr (.inl ()))))
    (fun k i => i = (k : Int) ∧ (List.range k).any b = false) n (fun v => v = cond ((List.range n).any b) (Sum.inr r) (Sum.inl ()))
    (fun k i hk ⟨e, ha⟩ => by
      subst e
      have hs : (cond (decide ((k : Int) < (n : Int))) ((c (k : Int)).bind fun t => cond t (some (.inr (.inr r))) (some (.inl (w64 ((k : Int) + 1))))) (some (.inr (.inl ()))) : Option (Int ⊕ (Unit ⊕ Bool))) = cond (b k) (some (.inr (.inr r))) (some (.inl ((k + 1 : Nat) : Int))) := by
        rw [dlt (by omega), cond_true, hc k hk, Option.bind_some, w64_nat (by omega)]
      cases hb : b k with
      | true =>
        refine .inr ⟨.inr r, by rw [hs, hb]; rfl, ?_⟩
        have : (List.range n).any b = true := List.any_eq_true.2 ⟨k, List.mem_range.2 hk, hb⟩
        rw [this]; rfl
      | false =>
        refine .inl ⟨_, by rw [hs, hb]; rfl, rfl, ?_⟩
        rw [List.range_succ, List.any_append, ha]; simp [hb])
    (fun i ⟨e, ha⟩ => by
      subst e
      exact ⟨.inl (), by rw [dnlt (by omega), cond_false], by rw [ha]; rfl⟩) (x := 0) ⟨rfl, rfl⟩
  rw [h1, h2]
/-! ### the live links -/
theorem sendsV {n : Net} (h : NS n) {b : Int} {a : Bridge} (ha : a ∈ n.1) (hb : at? n.1 b = some a) (p : Int) : ∃ v, impl_sendsBy n b p = some v ∧ spec_l15Sends n b p = some v := by
  obtain ⟨c, h1, h2, h3⟩ := sendsT a.1 (h.p a ha)
  refine ⟨bitV c p, ?_, ?_⟩
  · unfold impl_sendsBy
    rw [hb, Option.bind_some, Option.bind_some, h2, Option.bind_some, bitT h1, Option.bind_some]
  · unfold spec_l15Sends
    rw [hb, Option.bind_some, Option.bind_some, h3, Option.bind_some, bitS, Option.bind_some]
noncomputable def cLive (n : Net) (t : Int) : Option Bool := (at? n.2.1 t).bind fun x12 => (impl_LinkUp n t).bind fun t16 => (cond t16 ((impl_sendsBy n x12.1 x12.2.1).bind fun t23 => some t23) (some false)).bind fun t24 => (cond t24 ((impl_sendsBy n x12.2.2.1 x12.2.2.2).bind fun t31 => some t31) (some false))
noncomputable def bLive (n : Net) (k : Nat) : Bool := (cLive n (k : Int)).getD false
theorem live_at {n : Net} (h : NS n) {k : Nat} (hk : k < n.2.1.length) : ∃ v, cLive n (k : Int) = some v ∧ ((at? n.2.1 (k : Int)).bind fun x17 => (spec_LinkUp n (k : Int)).bind fun t21 => (cond t21 ((spec_l15Sends n x17.1 x17.2.1).bind fun t28 => some t28) (some false)).bind fun t29 => (cond t29 ((spec_l15Sends n x17.2.2.1 x17.2.2.2).bind fun t36 => some t36) (some false))) = some v := by
  unfold cLive
  rw [at_nat hk, Option.bind_some, Option.bind_some, linkT h, linkS h, Option.bind_some, Option.bind_some]
  cases hu : pLinkUp n (k : Int) with
  | false => exact ⟨false, rfl, rfl⟩
  | true =>
    obtain ⟨⟨a, ha, ea⟩, b, hb, eb⟩ := up_ends hk hu
    obtain ⟨v, v1, v2⟩ := sendsV h ha ea n.2.1[k].2.1
    obtain ⟨w, w1, w2⟩ := sendsV h hb eb n.2.1[k].2.2.2
    rw [cond_true, cond_true, v1, v2, w1, w2]
    cases v <;> exact ⟨_, rfl, rfl⟩
noncomputable def live (n : Net) : List Int := those (bLive n) n.2.1.length
theorem liveT {n : Net} (h : NS n) : impl_Live n = some (live n) := by
  have hc := collect (n := n.2.1.length) (c := cLive n) (b := bLive n) h.l (fun k hk => by
    obtain ⟨v, hv, _⟩ := live_at h hk
    unfold bLive; rw [hv]; rfl)
  unfold impl_Live live
  rw [← hc]
  have he : (fun z : Int × List Int => impl_Live_l0 n z.1 z.2) = (fun z : Int × List Int => cond (decide (z.1 < (n.2.1.length : Int))) ((cLive n z.1).bind fun t => cond t ((app z.2 [z.1]).bind fun zs => some (.inl (w64 (z.1 + 1), zs))) (some (.inl (w64 (z.1 + 1), z.2)))) (some (.inr z.2))) := by
    funext z
    unfold impl_Live_l0 cLive
    simp only [Option.bind_assoc]
  rw [he]
  cases loop _ _ <;> rfl
theorem liveS {n : Net} (h : NS n) : spec_Live n = some (live n) := by
  have hc := collect (n := n.2.1.length) (c := fun t => (at? n.2.1 t).bind fun x17 => (spec_LinkUp n t).bind fun t21 => (cond t21 ((spec_l15Sends n x17.1 x17.2.1).bind fun t28 => some t28) (some false)).bind fun t29 => (cond t29 ((spec_l15Sends n x17.2.2.1 x17.2.2.2).bind fun t36 => some t36) (some false))) (b := bLive n) h.l (fun k hk => by
    obtain ⟨v, hv, hw⟩ := live_at h hk
    unfold bLive; rw [hv]; exact hw)
  unfold spec_Live live
  rw [← hc]
  have he : (fun z : Int × List Int => spec_Live_l0 n z.1 z.2) = (fun z : Int × List Int => cond (decide (z.1 < (n.2.1.length : Int))) (((at? n.2.1 z.1).bind fun x17 => (spec_LinkUp n z.1).bind fun t21 => (cond t21 ((spec_l15Sends n x17.1 x17.2.1).bind fun t28 => some t28) (some false)).bind fun t29 => (cond t29 ((spec_l15Sends n x17.2.2.1 x17.2.2.2).bind fun t36 => some t36) (some false))).bind fun t => cond t ((app z.2 [z.1]).bind fun zs => some (.inl (w64 (z.1 + 1), zs))) (some (.inl (w64 (z.1 + 1), z.2)))) (some (.inr z.2))) := by
    funext z
    unfold spec_Live_l0
    simp only [Option.bind_assoc]
  rw [he]
  cases loop _ _ <;> rfl
theorem upLinksS {n : Net} (h : NS n) : spec_UpLinks n = some (upTo n n.2.1.length) := by
  have hc := collect (n := n.2.1.length) (c := fun t => spec_LinkUp n t) (b := fun k => pLinkUp n (k : Int)) h.l (fun k hk => linkS h _)
  unfold spec_UpLinks
  have he : loop (fun z => spec_UpLinks_l0 n z.1 z.2) (0, []) = some (those (fun k => pLinkUp n (k : Int)) n.2.1.length) := hc
  rw [he, Option.bind_some]; rfl
/-! ### round about -/
def loopB (n : Net) (l : List Int) (k : Nat) : Bool := match l[k]? with
  | some y => (match linkOf n y with
    | some x => hasB (joined n x.1 (l.take k ++ l.drop (k + 1))) x.2.2.1
    | none => false)
  | none => false
theorem cut_lo {l : List Int} {k : Nat} (h : k ≤ l.length) : cut l 0 (k : Int) = some (l.take k) := by
  unfold cut
  rw [if_pos (by omega), if_pos (by omega), if_pos (by omega)]; simp
theorem cut_hi {l : List Int} {k : Nat} (h : k ≤ l.length) : cut l (k : Int) (l.length : Int) = some (l.drop k) := by
  unfold cut
  rw [if_pos (by omega), if_pos (by omega), if_pos (by omega)]; simp
theorem loopsT {n : Net} (hb : n.1.length ≤ 1048576) (hl : n.2.1.length ≤ 1048576) {l : List Int} (h : l.length ≤ 1048576) : impl_Loops n l = some ((List.range l.length).any (loopB n l)) := by
  have hc := any_loop (n := l.length) (c := fun i => (at? l i).bind fun x13 => (impl_in x13 0 (w64 ((n.2.1.length : Int) - 1))).bind fun t20 => cond (!t20) (some false) ((cut l 0 i).bind fun t24 => (impl_copyInts t24).bind fun t25 => (cut l (w64 (i + 1)) (l.length : Int)).bind fun t29 => (app t25 t29).bind fun zs30 => (at? n.2.1 x13).bind fun x35 => (impl_Joined n x35.1 zs30).bind fun t39 => (at? n.2.1 x13).bind fun x43 => (impl_hasInt t39 x43.2.2.1))) (b := loopB n l) true (by omega) (fun k hk => by
    simp only [at_nat hk, Option.bind_some, inT, loopB, List.getElem?_eq_getElem hk, linkOf]
    rw [w64_id (n := (n.2.1.length : Int) - 1) (by omega) (by omega)]
    cases hin : pIn l[k] 0 ((n.2.1.length : Int) - 1) with
    | false => rfl
    | true =>
      obtain ⟨j, hj, ej, aj⟩ := in_at hin
      have hlen : (l.take k ++ l.drop (k + 1)).length ≤ 1048576 := by rw [List.length_append, List.length_take, List.length_drop]; omega
      have hcp : impl_copyInts (l.take k) = some (l.take k) := by
        unfold impl_copyInts
        rw [app_big (by rw [List.length_take]; show 0 + _ ≤ _; omega)]; rfl
      rw [Bool.not_true, cond_false, cond_true, cut_lo (by omega), Option.bind_some, hcp, Option.bind_some, w64_nat (by omega), cut_hi (by omega), Option.bind_some, app_big (by rw [List.length_append] at hlen; omega), Option.bind_some, aj, Option.bind_some, joinedT hb hl _ hlen, Option.bind_some, Option.bind_some, hasT]
      have hj' := joined_le n n.2.1[j].1 (l.take k ++ l.drop (k + 1))
      rw [hasS _ (by omega)])
  have he : loop (fun z => impl_Loops_l0 n l z) 0 = some (cond ((List.range l.length).any (loopB n l)) (Sum.inr true) (Sum.inl ())) := by
    rw [← hc]
    refine loop_ext (fun i => ?_) _
    unfold impl_Loops_l0
    simp only [Option.bind_assoc]
    cases at? l i with
    | none => rfl
    | some y =>
      simp only [Option.bind_some, inT]
      cases pIn y 0 (w64 ((n.2.1.length : Int) - 1)) with
      | false => rfl
      | true => simp only [Bool.not_true, cond_false, Option.bind_assoc]
  unfold impl_Loops
  rw [he, Option.bind_some]
  cases (List.range l.length).any (loopB n l) <;> rfl
theorem loopsS {n : Net} (hb : n.1.length ≤ 1048576) (hl : n.2.1.length ≤ 1048576) {l : List Int} (h : l.length ≤ 1048576) : spec_Loops n l = some ((List.range l.length).any (loopB n l)) := by
  have hc := any_loop (n := l.length) (c := fun i => (at? l i).bind fun x13 => (spec_l1In x13 0 (w64 ((n.2.1.length : Int) - 1))).bind fun t20 => cond (!t20) (some false) ((cut l 0 i).bind fun t26 => (app ([] : List Int) t26).bind fun zs27 => (cut l (w64 (i + 1)) (l.length : Int)).bind fun t31 => (app zs27 t31).bind fun zs32 => (at? l i).bind fun x38 => (at? n.2.1 x38).bind fun x40 => (spec_Joined n x40.1 zs32).bind fun t44 => (at? l i).bind fun x49 => (at? n.2.1 x49).bind fun x51 => (spec_l15Has t44 x51.2.2.1))) (b := loopB n l) true (by omega) (fun k hk => by
    simp only [at_nat hk, Option.bind_some, inS, loopB, List.getElem?_eq_getElem hk, linkOf]
    rw [w64_id (n := (n.2.1.length : Int) - 1) (by omega) (by omega)]
    cases hin : pIn l[k] 0 ((n.2.1.length : Int) - 1) with
    | false => rfl
    | true =>
      obtain ⟨j, hj, ej, aj⟩ := in_at hin
      have hlen : (l.take k ++ l.drop (k + 1)).length ≤ 1048576 := by rw [List.length_append, List.length_take, List.length_drop]; omega
      have hcp : app ([] : List Int) (l.take k) = some (l.take k) := by
        rw [app_big (by rw [List.length_take]; show 0 + _ ≤ _; omega)]; rfl
      rw [Bool.not_true, cond_false, cond_true, cut_lo (by omega), Option.bind_some, hcp, Option.bind_some, w64_nat (by omega), cut_hi (by omega), Option.bind_some, app_big (by rw [List.length_append] at hlen; omega), Option.bind_some, aj, Option.bind_some, joinedS hb hl _ hlen, Option.bind_some, Option.bind_some]
      have hj' := joined_le n n.2.1[j].1 (l.take k ++ l.drop (k + 1))
      rw [hasS _ (by omega)])
  have he : loop (fun z => spec_Loops_l0 n l z) 0 = some (cond ((List.range l.length).any (loopB n l)) (Sum.inr true) (Sum.inl ())) := by
    rw [← hc]
    refine loop_ext (fun i => ?_) _
    unfold spec_Loops_l0
    simp only [Option.bind_assoc]
    cases at? l i with
    | none => rfl
    | some y =>
      simp only [Option.bind_some, inS]
      cases pIn y 0 (w64 ((n.2.1.length : Int) - 1)) with
      | false => rfl
      | true => simp only [Bool.not_true, cond_false, Option.bind_assoc]
  unfold spec_Loops
  rw [he, Option.bind_some]
  cases (List.range l.length).any (loopB n l) <;> rfl
/-! ### one tree -/
theorem sameOidS : spec_SameOid = impl_SameOid := rfl
theorem sameOidT (a b : List Int) (h : b.length < 9223372036854775807) : ∃ r, impl_SameOid a b = some r := by
  unfold impl_SameOid
  by_cases hl : a.length = b.length
  · have e : ((a.length : Int) != (b.length : Int)) = false := by rw [hl]; simp
    rw [e, cond_false]
    obtain ⟨v, h1, -⟩ := loop_inv (step := fun z => impl_SameOid_l0 a b z) (fun k i => i = (k : Int)) a.length (fun _ => True)
      (fun k i hk e => by
        subst e
        have hs : impl_SameOid_l0 a b (k : Int) = cond (a[k] != (b[k]'(by omega))) (some (.inr (.inr false))) (some (.inl ((k + 1 : Nat) : Int))) := by
          unfold impl_SameOid_l0
          rw [dlt (by omega), cond_true, at_nat hk, Option.bind_some, at_nat (by omega), Option.bind_some, w64_nat (by omega)]
        cases hb : (a[k] != (b[k]'(by omega))) with
        | true => exact .inr ⟨_, by rw [hs, hb]; rfl, trivial⟩
        | false => exact .inl ⟨_, by rw [hs, hb]; rfl, rfl⟩)
      (fun i e => by
        subst e
        exact ⟨.inl (), by show impl_SameOid_l0 a b _ = _; unfold impl_SameOid_l0; rw [dnlt (by omega), cond_false], trivial⟩) (x := 0) rfl
    rw [h1, Option.bind_some]
    cases v with
    | inl u => exact ⟨true, rfl⟩
    | inr u => exact ⟨u, rfl⟩
  · have e : ((a.length : Int) != (b.length : Int)) = true := by simp; omega
    rw [e, cond_true]; exact ⟨_, rfl⟩
noncomputable def sameV (a b : List Int) : Bool := (impl_SameOid a b).getD false
theorem sameV_eq (a b : List Int) (h : b.length < 9223372036854775807) : impl_SameOid a b = some (sameV a b) := by
  obtain ⟨r, hr⟩ := sameOidT a b h
  unfold sameV; rw [hr]; rfl
noncomputable def treeB (n : Net) (k : Nat) : Bool := !(sameV (joined n (k : Int) (live n)) (joined n (k : Int) (upTo n n.2.1.length)))
theorem treeT {n : Net} (h : NS n) (hb : n.1.length ≤ 1048576) : impl_OneTree n = some (cond ((List.range n.1.length).any (treeB n)) false (!((List.range (live n).length).any (loopB n (live n))))) := by
  have hl := h.l
  have h1 : (live n).length ≤ 1048576 := Nat.le_trans (those_le _ _) hl
  have h2 : (upTo n n.2.1.length).length ≤ 1048576 := Nat.le_trans (upTo_le _ _) hl
  have hc := any_loop (n := n.1.length) (c := fun i => (impl_Joined n i (live n)).bind fun t19 => (impl_Joined n i (upTo n n.2.1.length)).bind fun t23 => (impl_SameOid t19 t23).bind fun t24 => some (!t24)) (b := treeB n) false (by omega) (fun k hk => by
    have h3 := joined_le n (k : Int) (upTo n n.2.1.length)
    rw [joinedT hb hl _ h1, Option.bind_some, joinedT hb hl _ h2, Option.bind_some, sameV_eq _ _ (by omega), Option.bind_some]; rfl)
  have he : loop (fun z => impl_OneTree_l0 n (live n) (upTo n n.2.1.length) z) 0 = some (cond ((List.range n.1.length).any (treeB n)) (Sum.inr false) (Sum.inl ())) := by
    rw [← hc]
    refine loop_ext (fun i => ?_) _
    unfold impl_OneTree_l0
    simp only [Option.bind_assoc, Option.bind_some]
  unfold impl_OneTree
  rw [liveT h, Option.bind_some, upLinksT h, Option.bind_some, he, Option.bind_some]
  cases (List.range n.1.length).any (treeB n) with
  | true => rfl
  | false => simp only [cond_false, Sum.elim_inl, loopsT hb hl h1, Option.bind_some]
theorem treeS {n : Net} (h : NS n) (hb : n.1.length ≤ 1048576) : spec_OneTree n = some (cond ((List.range n.1.length).any (treeB n)) false (!((List.range (live n).length).any (loopB n (live n))))) := by
  have hl := h.l
  have h1 : (live n).length ≤ 1048576 := Nat.le_trans (those_le _ _) hl
  have h2 : (upTo n n.2.1.length).length ≤ 1048576 := Nat.le_trans (upTo_le _ _) hl
  have hc := any_loop (n := n.1.length) (c := fun i => (spec_Joined n i (live n)).bind fun t19 => (spec_Joined n i (upTo n n.2.1.length)).bind fun t23 => (spec_SameOid t19 t23).bind fun t24 => some (!t24)) (b := treeB n) false (by omega) (fun k hk => by
    have h3 := joined_le n (k : Int) (upTo n n.2.1.length)
    rw [joinedS hb hl _ h1, Option.bind_some, joinedS hb hl _ h2, Option.bind_some, sameOidS, sameV_eq _ _ (by omega), Option.bind_some]; rfl)
  have he : loop (fun z => spec_OneTree_l0 n (live n) (upTo n n.2.1.length) z) 0 = some (cond ((List.range n.1.length).any (treeB n)) (Sum.inr false) (Sum.inl ())) := by
    rw [← hc]
    refine loop_ext (fun i => ?_) _
    unfold spec_OneTree_l0
    simp only [Option.bind_assoc, Option.bind_some]
  unfold spec_OneTree
  rw [liveS h, Option.bind_some, upLinksS h, Option.bind_some, he, Option.bind_some]
  cases (List.range n.1.length).any (treeB n) with
  | true => rfl
  | false => simp only [cond_false, Sum.elim_inl, loopsS hb hl h1, Option.bind_some]
theorem fnExactOneTree_pure (n : Net) (h : Cs.wf cNet n) : laws_FnExactOneTree n = some true := by
  obtain ⟨r, h1, h2⟩ := szNet (n := n) (left := 1048576) ⟨by omega, by omega⟩ (net_wf h)
  unfold laws_FnExactOneTree
  rw [h1, Option.bind_some]
  rcases h2 with rfl | ⟨k1, k2, k3⟩
  · rfl
  · have hn := ns_of k3
    have hb : n.1.length ≤ 1048576 := k3.1.1
    rw [dnlt (by omega), cond_false, toNet k3, Option.bind_some, treeS hn hb, Option.bind_some, Option.bind_some, treeT hn hb, Option.bind_some]
    simp [eqNet k3]
end Go.V.W
