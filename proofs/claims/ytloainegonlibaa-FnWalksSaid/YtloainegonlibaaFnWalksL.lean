/- The law FnWalks: part of the proof that for every input it returns true. No condition. -/
import Derived.Test.YtloainegonlibaaFnWalksB
namespace Go.V.W
set_option linter.unusedVariables false
set_option linter.unusedSimpArgs false
theorem bindsX {l : List Bind} (hn : l.length ≤ 1000) (h : ∀ x ∈ l, Nm x.1 ∧ Vl x.2) : impl_SameBinds l l = some true := by
  unfold impl_SameBinds
  have e : ((l.length : Int) != (l.length : Int)) = false := by simp
  rw [e, cond_false]
  obtain ⟨v, h1, rfl⟩ := loop_inv (step := fun z => impl_SameBinds_l0 l l z) (fun k i => i = (k : Int)) l.length (fun v => v = .inl ())
    (fun k i hk e => by
      subst e
      obtain ⟨q1, q2⟩ := h _ (List.getElem_mem hk)
      have q10 := q1.n10
      refine .inl ⟨((k + 1 : Nat) : Int), ?_, rfl⟩
      show impl_SameBinds_l0 l l (k : Int) = _
      unfold impl_SameBinds_l0
      simp only [dlt (show (k : Int) < (l.length : Int) by omega), cond_true, at_nat hk, Option.bind_some, sameO (show l[k].1.length < 9223372036854775807 by omega), beq_self_eq_true, Bool.not_true, cond_false, sameV1 (show l[k].2.2.2.2.length < 9223372036854775807 by rw [q2.o]; decide), w64_nat (show k < 9223372036854775807 by omega)])
    (fun i e => by
      subst e
      exact ⟨.inl (), by show impl_SameBinds_l0 l l _ = _; unfold impl_SameBinds_l0; rw [dnlt (by omega), cond_false], rfl⟩) (x := 0) rfl
  rw [h1, Option.bind_some]; rfl
theorem fnWalks_pure (code : List Int) : laws_FnWalks code = some true := by
  unfold laws_FnWalks laws_big
  by_cases hbig : (code.length : Int) > 1048576
  · simp only [decide_eq_true hbig, Option.bind_some, cond_true]
  simp only [decide_eq_false hbig, Option.bind_some, cond_false]
  obtain ⟨b, o, e, hb, ho⟩ := namedD (code := code) (by omega)
  have ho10 := ho.n10
  have hle := mib_le hb
  obtain ⟨j, hj⟩ := at_of (mib_pair hb) o
  have hjl := hj.le
  have w1 : impl_Walk b [0] 200 = some (mib b) := by
    have := walkX hb (o := [0]) (by decide) (at_zero b) (n := 200) (by decide)
    rw [List.drop_zero, List.take_of_length_le (by omega)] at this
    exact this
  have w2 : impl_Walk b o 200 = some ((mib b).drop j) := by
    have := walkX hb (o := o) (by omega) hj (n := 200) (by decide)
    rw [List.take_of_length_le (by rw [List.length_drop]; omega)] at this
    exact this
  have w3 : impl_Walk b o 2 = some (((mib b).drop j).take 2) := walkX hb (o := o) (by omega) hj (n := 2) (by decide)
  obtain ⟨v, h1, rfl⟩ := loop_inv (step := fun z : Int × Int => laws_FnWalks_l0 (b, o) (mib b) z.1 z.2) (fun k z => z.2 = (k : Int) ∧ z.1 = ((k - j : Nat) : Int)) (mib b).length (fun v => v = (((mib b).length - j : Nat) : Int))
    (fun k z hk ⟨e1, e2⟩ => by
      obtain ⟨t, i⟩ := z
      simp only at e1 e2
      subst e1 e2
      left
      have hn := (mib_each hb _ (List.getElem_mem hk)).1.n10
      show ∃ y, laws_FnWalks_l0 (b, o) (mib b) ((k - j : Nat) : Int) (k : Int) = _ ∧ _
      unfold laws_FnWalks_l0
      rw [dlt (by omega), cond_true, at_nat hk, Option.bind_some, lessO (by omega), Option.bind_some, w64_nat (by omega), w64_nat (by omega)]
      by_cases hkj : k < j
      · rw [decide_eq_false (hj.no k hk hkj), cond_false]
        exact ⟨_, rfl, rfl, by show ((k - j : Nat) : Int) = ((k + 1 - j : Nat) : Int); omega⟩
      · rw [decide_eq_true (hj.yes k hk (by omega)), cond_true]
        exact ⟨_, rfl, rfl, by show ((k - j + 1 : Nat) : Int) = ((k + 1 - j : Nat) : Int); omega⟩)
    (fun z ⟨e1, e2⟩ => by
      obtain ⟨t, i⟩ := z
      simp only at e1 e2
      subst e1 e2
      refine ⟨_, ?_, rfl⟩
      show laws_FnWalks_l0 (b, o) (mib b) _ _ = _
      unfold laws_FnWalks_l0
      rw [dnlt (by omega), cond_false]) (x := (0, 0)) ⟨rfl, by simp⟩
  have hcut : cut (mib b) (w64 (((mib b).length : Int) - (((mib b).length - j : Nat) : Int))) ((mib b).length : Int) = some ((mib b).drop j) := by
    rw [w64_id (by omega) (by omega), show ((mib b).length : Int) - (((mib b).length - j : Nat) : Int) = (j : Int) by omega, cut_ok (by omega) (Nat.le_refl _), List.take_length]
  have hlen : (((mib b).drop j).length : Int) = (((mib b).length - j : Nat) : Int) := by rw [List.length_drop]
  have h2 : decide (((((mib b).drop j).take 2).length : Int) ≤ 2) = true := decide_eq_true (by rw [List.length_take]; omega)
  rw [e, Option.bind_some]
  show ((impl_MibList b).bind _) = _
  rw [mibX hb, Option.bind_some]
  show ((impl_Walk b [0] 200).bind _) = _
  rw [w1, Option.bind_some]
  show ((impl_Walk b o 200).bind _) = _
  rw [w2, Option.bind_some, h1, Option.bind_some, bindsX (by omega) (mib_each hb), Option.bind_some, cond_true, hlen, beq_self_eq_true, Option.bind_some, cond_true, hcut, Option.bind_some, bindsX (by rw [List.length_drop]; omega) (fun x hx => mib_each hb x (List.mem_of_mem_drop hx)), Option.bind_some, Option.bind_some, cond_true]
  show ((impl_Walk b o 2).bind _).bind _ = _
  rw [w3, Option.bind_some, h2]; rfl
end Go.V.W
