/- The law FnMibs: part of the proof that for every input it returns true. No condition. -/
import Derived.Test.YtloainegonlibaaNamed
namespace Go.V.W
set_option linter.unusedVariables false
set_option linter.unusedSimpArgs false
theorem bindsX {l : List Bind} (hn : l.length ≤ 1000) (h : ∀ x ∈ l, Nm x.1 ∧ Vl x.2) : impl_SameBinds l l = some true := by
  unfold impl_SameBinds
  have e : ((l.length : Int) != (l.length : Int)) = false := by simp
  rw [e, cond_false]
  obtain ⟨v, h1, rfl⟩ := loop_inv (step := fun z => impl_SameBinds_l0 l l z) (fun k i => i = (k : Int)) l.length (fun v => v = .inl ())
    (fun k i hk e => by
      subst e
      obtain ⟨q1, q2⟩ := h _ (List.getElem_mem hk)
      have q10 := q1.n10
      refine .inl ⟨((k + 1 : Nat) : Int), ?_, rfl⟩
      show impl_SameBinds_l0 l l (k : Int) = _
      unfold impl_SameBinds_l0
      simp only [dlt (show (k : Int) < (l.length : Int) by omega), cond_true, at_nat hk, Option.bind_some, sameO (show l[k].1.length < 9223372036854775807 by omega), beq_self_eq_true, Bool.not_true, cond_false, sameV1 (show l[k].2.2.2.2.length < 9223372036854775807 by rw [q2.o]; decide), w64_nat (show k < 9223372036854775807 by omega)])
    (fun i e => by
      subst e
      exact ⟨.inl (), by show impl_SameBinds_l0 l l _ = _; unfold impl_SameBinds_l0; rw [dnlt (by omega), cond_false], rfl⟩) (x := 0) rfl
  rw [h1, Option.bind_some]; rfl
theorem fnMibs_pure (code : List Int) : laws_FnMibs code = some true := by
  unfold laws_FnMibs laws_big
  by_cases hbig : (code.length : Int) > 1048576
  · simp only [decide_eq_true hbig, Option.bind_some, cond_true]
  simp only [decide_eq_false hbig, Option.bind_some, cond_false]
  obtain ⟨b, o, e, hb, ho⟩ := namedD (code := code) (by omega)
  have ho10 := ho.n10
  have hle := mib_le hb
  rw [e, Option.bind_some]
  show ((impl_MibList b).bind _) = _
  rw [mibX hb, Option.bind_some]
  obtain ⟨v, h1, h2⟩ := loop_inv (step := fun z : Bool × Int => laws_FnMibs_l0 (b, o) (mib b) z.1 z.2) (fun k z => z.2 = (k : Int) ∧ z.1 = ((mib b).take k).any (fun x => x.1 == o)) (mib b).length (fun v => v = .inl ((mib b).any fun x => x.1 == o))
    (fun k z hk ⟨e1, e2⟩ => by
      obtain ⟨t, i⟩ := z
      simp only at e1 e2
      subst e1
      left
      have hx := List.getElem_mem hk
      obtain ⟨q1, q2⟩ := mib_each hb _ hx
      have q10 := q1.n10
      have hget : ∃ y, impl_MibGet b (mib b)[k].1 = some y ∧ y = (mib b)[k].2 := by
        obtain ⟨y, hy, hy2⟩ := getX hb (o := (mib b)[k].1) (by omega)
        refine ⟨y, hy, ?_⟩
        rcases hy2 with ⟨x, hx', hxe, rfl⟩ | ⟨hno, _⟩
        · rw [mib_one hb hx' hx hxe]
        · exact absurd rfl (hno _ hx)
      obtain ⟨y, hy, rfl⟩ := hget
      have hless : (cond (decide ((k : Int) > 0)) ((at? (mib b) (w64 ((k : Int) - 1))).bind fun x47 => (at? (mib b) (k : Int)).bind fun x52 => (impl_LessOid x47.1 x52.1).bind fun t55 => some (!t55)) (some false)) = some false := by
        by_cases h0 : 0 < k
        · have hp := List.pairwise_iff_getElem.1 (mib_pair hb) (k - 1) k (by omega) hk (by omega)
          rw [decide_eq_true (show (k : Int) > 0 by omega), cond_true, prev_at hk h0 (by omega), Option.bind_some, at_nat hk, Option.bind_some, lessO (by omega), decide_eq_true hp, Option.bind_some]; rfl
        · rw [decide_eq_false (show ¬ (k : Int) > 0 by omega), cond_false]
      refine ⟨(t || (mib b)[k].1 == o, ((k + 1 : Nat) : Int)), ?_, rfl, ?_⟩
      · show laws_FnMibs_l0 (b, o) (mib b) t (k : Int) = _
        unfold laws_FnMibs_l0
        rw [hless]
        simp only [dlt (show (k : Int) < ((mib b).length : Int) by omega), cond_true, at_nat hk, Option.bind_some, q1.ok, q2.ok, Bool.not_true, cond_false, hy, sameV1 (show (mib b)[k].2.2.2.2.length < 9223372036854775807 by rw [q2.o]; decide), sameO (show o.length < 9223372036854775807 by omega), w64_nat (show k < 9223372036854775807 by omega)]
        cases t <;> rfl
      · show (t || (mib b)[k].1 == o) = _
        rw [List.take_add_one, List.getElem?_eq_getElem hk, List.any_append, ← e2]
        simp)
    (fun z ⟨e1, e2⟩ => by
      obtain ⟨t, i⟩ := z
      simp only at e1 e2
      subst e1
      rw [List.take_length] at e2
      refine ⟨.inl t, ?_, by rw [e2]⟩
      show laws_FnMibs_l0 (b, o) (mib b) t _ = _
      unfold laws_FnMibs_l0
      rw [dnlt (by omega), cond_false]) (x := (false, 0)) ⟨rfl, by simp⟩
  subst h2
  rw [h1, Option.bind_some]
  show ((impl_MibGet b o).bind _) = _
  obtain ⟨y, hy, hy2⟩ := getX hb (o := o) (by omega)
  have hk : (!((y.1 == 128) == ((mib b).any fun x => x.1 == o))) = true := by
    rcases hy2 with ⟨x, hx, hxe, rfl⟩ | ⟨hno, rfl⟩
    · rw [(mib_each hb _ hx).2.k, show ((mib b).any fun x => x.1 == o) = true from List.any_eq_true.2 ⟨x, hx, beq_iff_eq.2 hxe⟩]; rfl
    · have : ((mib b).any fun x => x.1 == o) = false := by
        apply Bool.eq_false_iff.2
        intro ha
        obtain ⟨x, hx, hxe⟩ := List.any_eq_true.1 ha
        exact hno x hx (eq_of_beq hxe)
      rw [this]; rfl
  have hlen := mib_len hb
  have hn6 := hb.n6
  have hv6 : b.2.2.2.2.1.length ≤ 6 := hb.vt.len.2.2.2
  have hf12 := hb.f12
  have hpl : impl_Places b = some ((mib b).length : Int) := by unfold impl_Places; rw [mibX hb]; rfl
  have hw : w64 ((w64 ((w64 (5 + (w64 (4 * (b.2.2.1.length : Int))))) + (w64 (3 * (b.2.2.2.2.1.length : Int))))) + (b.2.2.2.1.length : Int)) = ((mib b).length : Int) := by
    rw [w64_id (n := 4 * (b.2.2.1.length : Int)) (by omega) (by omega), w64_id (n := 5 + 4 * (b.2.2.1.length : Int)) (by omega) (by omega), w64_id (n := 3 * (b.2.2.2.2.1.length : Int)) (by omega) (by omega), w64_id (n := 5 + 4 * (b.2.2.1.length : Int) + 3 * (b.2.2.2.2.1.length : Int)) (by omega) (by omega), w64_id (by omega) (by omega)]
    omega
  rw [hy, Option.bind_some]
  simp only [hk, cond_true, mib_same hb.w, mibX hb, Option.bind_some, bindsX (by omega) (mib_each hb), hpl, hw, beq_self_eq_true]
end Go.V.W
