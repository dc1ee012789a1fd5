/- The law FnMibsBent: part of the proof that for every input it returns true. No condition. -/
import Derived.Test.YtnmjjciilpjkbaaFnMibsBentC
namespace Go.V.W
set_option linter.unusedVariables false
set_option linter.unusedSimpArgs false
theorem bindsX {l : List Bind} (hn : l.length ≤ 1000) (h : ∀ x ∈ l, Nm x.1 ∧ Vl x.2) : impl_SameBinds l l = some true := by
  unfold impl_SameBinds
  have e : ((l.length : Int) != (l.length : Int)) = false := by simp
  rw [e, cond_false]
  obtain ⟨v, h1, rfl⟩ := loop_inv (step := fun z => impl_SameBinds_l0 l l z) (fun k i => i = (k : Int)) l.length (fun v => v = .inl ())
    (fun k i hk e => by
      subst e
      obtain ⟨q1, q2⟩ := h _ (List.getElem_mem hk)
      have q10 := q1.n10
      refine .inl ⟨((k + 1 : Nat) : Int), ?_, rfl⟩
      show impl_SameBinds_l0 l l (k : Int) = _
      unfold impl_SameBinds_l0
      simp only [dlt (show (k : Int) < (l.length : Int) by omega), cond_true, at_nat hk, Option.bind_some, sameO (show l[k].1.length < 9223372036854775807 by omega), beq_self_eq_true, Bool.not_true, cond_false, sameV1 (show l[k].2.2.2.2.length < 9223372036854775807 by rw [q2.o]; decide), w64_nat (show k < 9223372036854775807 by omega)])
    (fun i e => by
      subst e
      exact ⟨.inl (), by show impl_SameBinds_l0 l l _ = _; unfold impl_SameBinds_l0; rw [dnlt (by omega), cond_false], rfl⟩) (x := 0) rfl
  rw [h1, Option.bind_some]; rfl
/-! ### the reference says the same -/
theorem ix_at {α β : Type} (l : List α) (i : Int) (f : α → Option β) : ((ix l.length i).bind fun j => (l[j]?).bind f) = (at? l i).bind f := by
  unfold ix at?
  by_cases h0 : 0 ≤ i
  · rw [if_pos h0, if_pos h0]
    by_cases h1 : i < (l.length : Int)
    · rw [if_pos h1, Option.bind_some]
    · rw [if_neg h1, List.getElem?_eq_none (by omega)]; rfl
  · rw [if_neg h0, if_neg h0]; rfl
theorem lessS' : spec_LessOid = impl_LessOid := rfl
theorem nextS {b : Bridge} (h : BWf b) (o : List Int) : spec_MibNext b o = impl_MibNext b o := by
  unfold spec_MibNext impl_MibNext
  rw [mib_same h]
  cases impl_MibList b with
  | none => rfl
  | some l =>
    have hs : (fun z : Int × Int × Int × List UInt8 × List Int × List Int => spec_MibNext_l0 o l z.1 z.2.1 z.2.2.1 z.2.2.2.1 z.2.2.2.2.1 z.2.2.2.2.2) = fun z => impl_MibNext_l0 o l z.1 z.2.1 z.2.2.1 z.2.2.2.1 z.2.2.2.2.1 z.2.2.2.2.2 := by
      funext z
      unfold spec_MibNext_l0 impl_MibNext_l0
      simp only [ix_at, lessS']
      cases at? l z.1 <;> rfl
    rw [Option.bind_some, Option.bind_some, hs]
    unfold impl_copyInts
    simp only [Option.bind_assoc, Option.bind_some]
theorem getS {b : Bridge} (h : BWf b) (o : List Int) : spec_MibGet b o = impl_MibGet b o := by
  unfold spec_MibGet impl_MibGet
  rw [mib_same h]
  cases impl_MibList b with
  | none => rfl
  | some l =>
    have hs : (fun z : Int × Int × Int × List UInt8 × List Int => spec_MibGet_l0 o l z.1 z.2.1 z.2.2.1 z.2.2.2.1 z.2.2.2.2) = fun z => impl_MibGet_l0 o l z.1 z.2.1 z.2.2.1 z.2.2.2.1 z.2.2.2.2 := by
      funext z
      unfold spec_MibGet_l0 impl_MibGet_l0
      simp only [ix_at, sameOidS]
      cases at? l z.1 <;> rfl
    rw [Option.bind_some, Option.bind_some, hs]
theorem iter_map {α β γ : Type} {f : α → Option (α ⊕ β)} {g : α → Option (α ⊕ γ)} (h : γ → β) (hfg : ∀ x, f x = (g x).map (Sum.map id h)) (k : Nat) : ∀ x, iter f k x = (iter g k x).map h := by
  induction k with
  | zero => intro x; rfl
  | succ k ih =>
    intro x
    rw [iter_succ, iter_succ, hfg x]
    cases g x with
    | none => rfl
    | some v => cases v with
      | inl y => exact ih y
      | inr c => rfl
theorem loop_map {α β γ : Type} {f : α → Option (α ⊕ β)} {g : α → Option (α ⊕ γ)} (h : γ → β) (hfg : ∀ x, f x = (g x).map (Sum.map id h)) (x : α) : loop f x = (loop g x).map h := by
  by_cases hc : ∃ k, (iter g k x).isSome
  · obtain ⟨k, hk⟩ := hc
    cases hv : iter g k x with
    | none => rw [hv] at hk; cases hk
    | some c =>
      have : iter f k x = some (h c) := by rw [iter_map h hfg, hv]; rfl
      rw [loop_of hv, loop_of this]; rfl
  · have hc' : ¬ ∃ k, (iter f k x).isSome := by
      rintro ⟨k, hk⟩
      apply hc
      refine ⟨k, ?_⟩
      rw [iter_map h hfg] at hk
      cases hv : iter g k x with
      | none => rw [hv] at hk; cases hk
      | some c => rfl
    unfold loop
    rw [dif_neg hc, dif_neg hc']; rfl
theorem walkS {b : Bridge} (h : BWf b) (o : List Int) (n : Int) : spec_Walk b o n = impl_Walk b o n := by
  unfold spec_Walk impl_Walk
  rw [inS, Option.bind_some]
  cases hin : pIn n 0 200 with
  | false =>
    have : iter (fun z : List Int × List Bind => impl_Walk_l0 b n z.1 z.2) 1 (o, []) = some [] := by
      rw [iter_succ]
      have hs : impl_Walk_l0 b n o [] = some (.inr []) := by
        unfold impl_Walk_l0
        rw [inT, Option.bind_some, hin]; rfl
      show (impl_Walk_l0 b n o []).bind _ = _
      rw [hs]; rfl
    rw [loop_of this]; rfl
  | true =>
    rw [Bool.not_true, cond_false, loop_map (f := fun z : List Int × List Bind => impl_Walk_l0 b n z.1 z.2) (g := fun z : List Int × List Bind => spec_Walk_l0 b n z.1 z.2) (Sum.elim id id) (fun z => by
      unfold impl_Walk_l0 spec_Walk_l0
      rw [inT, Option.bind_some, hin, cond_true, Option.bind_some, nextS h]
      cases decide ((z.2.length : Int) < n) with
      | false => rfl
      | true =>
        rw [cond_true, cond_true]
        cases impl_MibNext b z.1 with
        | none => rfl
        | some x =>
          rw [Option.bind_some, Option.bind_some]
          cases x.2.1 == 130 with
          | true => rfl
          | false =>
            rw [cond_false, cond_false]
            cases app z.2 [x] <;> rfl)]
    cases loop (fun z : List Int × List Bind => spec_Walk_l0 b n z.1 z.2) (o, []) with
    | none => rfl
    | some v => cases v <;> rfl
theorem countS {b : Bridge} (h : BWf b) (head : List Int) : spec_CountBelow b head = impl_CountBelow b head := by
  unfold spec_CountBelow impl_CountBelow
  rw [mib_same h]
  cases impl_MibList b with
  | none => rfl
  | some l => rw [Option.bind_some, Option.bind_some, count_same]
/-! ### of any bridge there is an answer -/
theorem mibE {b : Bridge} (h : BWf b) (hp : pBridge b = false) : impl_MibList b = some [] := by rw [mibT h, hp]; rfl
theorem getE {b : Bridge} (h : BWf b) {o : List Int} (ho : o.length ≤ 1000) : ∃ v, impl_MibGet b o = some v ∧ v.2.2.2 = [] := by
  cases hp : pBridge b with
  | true =>
    obtain ⟨v, e, hv⟩ := getX (bok h hp) (o := o) (by omega)
    refine ⟨v, e, ?_⟩
    rcases hv with ⟨x, hx, _, rfl⟩ | ⟨_, rfl⟩
    · exact (mib_each (bok h hp) _ hx).2.o
    · rfl
  | false =>
    refine ⟨(128, 0, [], []), ?_, rfl⟩
    unfold impl_MibGet
    have : iter (fun z : Int × Int × Int × List UInt8 × List Int => impl_MibGet_l0 o [] z.1 z.2.1 z.2.2.1 z.2.2.2.1 z.2.2.2.2) 1 (0, 0, 0, [], []) = some (.inl (0, 0, [], [])) := rfl
    rw [mibE h hp, Option.bind_some, loop_of this]; rfl
theorem nextE {b : Bridge} (h : BWf b) {o : List Int} (ho : o.length ≤ 1000) : ∃ x, impl_MibNext b o = some x ∧ x.1.length ≤ 1000 ∧ x.2.2.2.2 = [] := by
  cases hp : pBridge b with
  | true =>
    have hb := bok h hp
    obtain ⟨j, hj⟩ := at_of (mib_pair hb) o
    refine ⟨_, nextX hb ho hj, ?_⟩
    split
    · rename_i hlt
      obtain ⟨q1, q2⟩ := mib_each hb _ (List.getElem_mem hlt)
      have := q1.n10
      exact ⟨by omega, q2.o⟩
    · exact ⟨ho, rfl⟩
  | false =>
    refine ⟨(o, 130, 0, [], []), ?_, ho, rfl⟩
    unfold impl_MibNext impl_copyInts
    have : iter (fun z : Int × Int × Int × List UInt8 × List Int × List Int => impl_MibNext_l0 o [] z.1 z.2.1 z.2.2.1 z.2.2.2.1 z.2.2.2.2.1 z.2.2.2.2.2) 1 (0, 0, 0, [], [], []) = some (.inl (0, 0, [], [], [])) := rfl
    rw [mibE h hp, Option.bind_some, loop_of this, Option.bind_some]
    show (((app [] o).bind fun zs => some zs).bind fun t => some (t, 130, 0, [], [])) = _
    rw [app_small (by show 0 + o.length ≤ _; omega)]; rfl
theorem walkE {b : Bridge} (h : BWf b) {o : List Int} (ho : o.length ≤ 1000) (n : Int) : ∃ l, impl_Walk b o n = some l ∧ l.length ≤ 1000 ∧ ∀ x ∈ l, Nm x.1 ∧ Vl x.2 := by
  cases hin : pIn n 0 200 with
  | false =>
    refine ⟨[], ?_, by simp, fun x hx => absurd hx List.not_mem_nil⟩
    rw [← walkS h]
    unfold spec_Walk
    rw [inS, hin]; rfl
  | true =>
    have hi := inE hin
    obtain ⟨k, rfl⟩ : ∃ k : Nat, n = (k : Int) := ⟨n.toNat, by omega⟩
    cases hp : pBridge b with
    | true =>
      have hb := bok h hp
      have hle := mib_le hb
      obtain ⟨j, hj⟩ := at_of (mib_pair hb) o
      refine ⟨_, walkX hb ho hj (by omega), ?_, fun x hx => mib_each hb x (List.mem_of_mem_drop (List.mem_of_mem_take hx))⟩
      rw [List.length_take, List.length_drop]; omega
    | false =>
      refine ⟨[], ?_, by simp, fun x hx => absurd hx List.not_mem_nil⟩
      have hnext : impl_MibNext b o = some (o, 130, 0, [], []) := by
        unfold impl_MibNext impl_copyInts
        have : iter (fun z : Int × Int × Int × List UInt8 × List Int × List Int => impl_MibNext_l0 o [] z.1 z.2.1 z.2.2.1 z.2.2.2.1 z.2.2.2.2.1 z.2.2.2.2.2) 1 (0, 0, 0, [], [], []) = some (.inl (0, 0, [], [], [])) := rfl
        rw [mibE h hp, Option.bind_some, loop_of this, Option.bind_some]
        show (((app [] o).bind fun zs => some zs).bind fun t => some (t, 130, 0, [], [])) = _
        rw [app_small (by show 0 + o.length ≤ _; omega)]; rfl
      have : iter (fun z : List Int × List Bind => impl_Walk_l0 b (k : Int) z.1 z.2) 1 (o, []) = some [] := by
        rw [iter_succ]
        have hs : impl_Walk_l0 b (k : Int) o [] = some (.inr []) := by
          unfold impl_Walk_l0
          rw [inT, Option.bind_some, hin, cond_true, hnext]
          cases decide ((([] : List Bind).length : Int) < (k : Int)) <;> rfl
        show (impl_Walk_l0 b (k : Int) o []).bind _ = _
        rw [hs]; rfl
      unfold impl_Walk
      rw [loop_of this]; rfl
theorem countE {b : Bridge} (h : BWf b) {head : List Int} (hh : head.length ≤ 1000) : ∃ n, impl_CountBelow b head = some n := by
  obtain ⟨l, hl, hl2⟩ := mib_total h
  obtain ⟨n, hn⟩ := count_total head l (by omega) (by omega)
  exact ⟨n, by unfold impl_CountBelow; rw [hl, Option.bind_some, hn]; rfl⟩
/-! ### the draws -/
theorem getDraw {code : List Int} (h : code.length ≤ 1048576) : ∃ b o, spec_DrawMibGet code = some (b, o) ∧ BWf b ∧ Nm o := by
  obtain ⟨c, e, w⟩ := newD h
  obtain ⟨c1, b, e1, w1, hb⟩ := anyD w
  obtain ⟨c2, o, e2, w2, hn⟩ := nameA w1 hb
  unfold spec_DrawMibGet
  rw [e, Option.bind_some, e1, Option.bind_some]
  show ∃ b' o', ((spec_l17Oid c1 b).bind _) = _ ∧ _
  rw [e2, Option.bind_some]
  exact ⟨_, _, rfl, hb, hn⟩
theorem walkDraw {code : List Int} (h : code.length ≤ 1048576) : ∃ b o n, spec_DrawWalk code = some (b, o, n) ∧ BWf b ∧ Nm o := by
  obtain ⟨c, e, w⟩ := newD h
  obtain ⟨c1, b, e1, w1, hb⟩ := anyD w
  obtain ⟨c2, o, e2, w2, hn⟩ := nameA w1 hb
  obtain ⟨c3, n, e3, w3, _⟩ := intD w2 (l := [200, 3, 1, 0, (-1), 201]) (by decide)
  unfold spec_DrawWalk
  rw [e, Option.bind_some, e1, Option.bind_some]
  show ∃ b' o' n', ((spec_l17Oid c1 b).bind _) = _ ∧ _
  rw [e2, Option.bind_some]
  show ∃ b' o' n', ((spec_l1Int c2 _).bind _) = _ ∧ _
  rw [e3, Option.bind_some]
  exact ⟨_, _, _, rfl, hb, hn⟩
theorem countDraw {code : List Int} (h : code.length ≤ 1048576) : ∃ b o, spec_DrawCountBelow code = some (b, o) ∧ BWf b ∧ o.length ≤ 1000 := by
  obtain ⟨c, e, w⟩ := newD h
  obtain ⟨c1, b, e1, w1, hb⟩ := anyD w
  obtain ⟨c2, st, e2, w2⟩ := onceD w1 3
  unfold spec_DrawCountBelow
  rw [e, Option.bind_some, e1, Option.bind_some]
  show ∃ b' o', ((spec_l1Once c1 3).bind _) = _ ∧ _
  rw [e2, Option.bind_some]
  show ∃ b' o', cond st _ _ = _ ∧ _
  cases st with
  | true =>
    obtain ⟨c3, o, e3, w3, hn⟩ := nameA w2 hb
    have := hn.n10
    show ∃ b' o', ((spec_l17Oid c2 b).bind _) = _ ∧ _
    rw [e3, Option.bind_some]
    exact ⟨_, _, rfl, hb, by show o.length ≤ 1000; omega⟩
  | false =>
    obtain ⟨c3, k, e3, w3, _⟩ := belowD w2 6
    show ∃ b' o', ((spec_l1Below c2 6).bind _) = _ ∧ _
    rw [e3, Option.bind_some, nameX _ (by simp), Option.bind_some]
    exact ⟨_, _, rfl, hb, by simp⟩
theorem fnMibsBent_pure (code : List Int) : laws_FnMibsBent code = some true := by
  unfold laws_FnMibsBent laws_big
  by_cases hbig : (code.length : Int) > 1048576
  · simp only [decide_eq_true hbig, Option.bind_some, cond_true]
  simp only [decide_eq_false hbig, Option.bind_some, cond_false]
  obtain ⟨b1, o1, e1, h1, n1⟩ := getDraw (code := code) (by omega)
  obtain ⟨b2, o2, n, e2, h2, n2⟩ := walkDraw (code := code) (by omega)
  obtain ⟨b3, o3, e3, h3, n3⟩ := countDraw (code := code) (by omega)
  have m1 := n1.n10
  have m2 := n2.n10
  obtain ⟨x, hx, x1, x2⟩ := nextE h1 (o := o1) (by omega)
  obtain ⟨v, hv, v1⟩ := getE h1 (o := o1) (by omega)
  obtain ⟨l, hl, l1, l2⟩ := walkE h2 (o := o2) (by omega) n
  obtain ⟨q, hq⟩ := countE h3 (head := o3) n3
  obtain ⟨m, hm, _⟩ := mib_total h3
  have hpi : impl_Places b3 = some (m.length : Int) := by unfold impl_Places; rw [hm]; rfl
  have hps : spec_Places b3 = some (m.length : Int) := by unfold spec_Places; rw [mib_same h3, hm]; rfl
  have hx2 : impl_SameVal x.2 x.2 = some true := sameV1 (by rw [x2]; decide)
  have hv2 : impl_SameVal v v = some true := sameV1 (by rw [v1]; decide)
  rw [e1, Option.bind_some, e2, Option.bind_some, e3, Option.bind_some]
  show ((impl_MibNext b1 o1).bind _) = _
  rw [hx, Option.bind_some]
  show ((spec_MibNext b1 o1).bind _) = _
  rw [nextS h1, hx, Option.bind_some]
  show ((impl_MibGet b1 o1).bind _) = _
  rw [hv, Option.bind_some]
  show ((spec_MibGet b1 o1).bind _) = _
  rw [getS h1, hv, Option.bind_some, hv2, Option.bind_some, cond_true, sameO (by omega), beq_self_eq_true, Option.bind_some, Option.bind_some, cond_true, hx2, Option.bind_some, Option.bind_some, cond_true]
  show ((((impl_Walk b2 o2 n).bind _)).bind _) = _
  rw [hl, Option.bind_some]
  show ((((spec_Walk b2 o2 n).bind _)).bind _) = _
  rw [walkS h2, hl, Option.bind_some, bindsX l1 l2, Option.bind_some, Option.bind_some, cond_true]
  show ((((impl_CountBelow b3 o3).bind _)).bind _) = _
  rw [hq, Option.bind_some]
  show ((((spec_CountBelow b3 o3).bind _)).bind _) = _
  rw [countS h3, hq, Option.bind_some, Option.bind_some, beq_self_eq_true, cond_true]
  show ((((impl_Places b3).bind _)).bind _) = _
  rw [hpi, Option.bind_some]
  show ((((spec_Places b3).bind _)).bind _) = _
  rw [hps, Option.bind_some, Option.bind_some, beq_self_eq_true]
end Go.V.W
