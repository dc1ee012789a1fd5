/- The law FnReadOnly: part of the proof that for every input it returns true. No condition. -/
import Derived.Test.YtnmjjciilpjkbaaFnReadOnlyB
namespace Go.V.W
set_option linter.unusedVariables false
set_option linter.unusedSimpArgs false
theorem setNull {b : Bridge} {o : List Int} (h : CanSet b o) : ∃ x9, at? o 3 = some x9 := by
  cases h <;> exact ⟨_, rfl⟩
theorem fnReadOnly_pure (code : List Int) : laws_FnReadOnly code = some true := by
  unfold laws_FnReadOnly laws_big
  by_cases hbig : (code.length : Int) > 1048576
  · simp only [decide_eq_true hbig, Option.bind_some, cond_true]
  simp only [decide_eq_false hbig, Option.bind_some, cond_false]
  obtain ⟨b, o, e, hb, ho⟩ := namedD (code := code) (by omega)
  have ho10 := ho.n10
  obtain ⟨v, hv, hv2⟩ := getX hb (o := o) (by omega)
  obtain ⟨s, hs, hs2⟩ := canSetX hb (o := o) (by omega)
  obtain ⟨r, hr, hr2⟩ := canReadX hb (o := o) (by omega)
  have hset : impl_SetOne b (o, 5, 0, [], []) = some (b, cond s 1 (cond r 4 3)) := by
    unfold impl_SetOne impl_Bridge_set
    rw [copyX hb, Option.bind_some, bridgeT hb.w, hb.ok, Option.bind_some, Bool.not_true, cond_false, hs, Option.bind_some]
    cases s with
    | true =>
      obtain ⟨x9, h9⟩ := setNull (hs2.1 rfl)
      have hthing : impl_Bridge_setThing b o (5, 0, [], []) = some (b, 1) := by
        unfold impl_Bridge_setThing
        rw [h9, Option.bind_some]
        cases (x9 == 1) <;> rfl
      rw [cond_true, hthing]; rfl
    | false =>
      rw [cond_false, hr, Option.bind_some]
      cases r <;> rfl
  rw [e, Option.bind_some]
  show ((impl_SetOne b (o, 5, 0, [], [])).bind _) = _
  rw [hset, Option.bind_some]
  show ((impl_MibGet b o).bind _) = _
  rw [hv, Option.bind_some]
  show cond (cond s 1 (cond r 4 3) == 4) ((cond (v.1 != 128) ((impl_SameBridge b b).bind fun t34 => some t34) (some false)).bind fun t35 => some t35) (cond (cond s 1 (cond r 4 3) == 3) ((cond (v.1 == 128) ((impl_SameBridge b b).bind fun t44 => some t44) (some false)).bind fun t45 => some t45) ((cond (cond s 1 (cond r 4 3) == 1) ((impl_SameBridge b b).bind fun t51 => some t51) (some false)).bind fun t52 => some t52)) = some true
  rw [sameX hb]
  cases s with
  | true => rfl
  | false =>
    cases r with
    | true =>
      have h128 : (v.1 == 128) = false := by
        rcases hv2 with ⟨x, hx, _, rfl⟩ | ⟨hno, _⟩
        · exact (mib_each hb _ hx).2.k
        · obtain ⟨x, hx, hxe⟩ := read_there (hr2.1 rfl)
          exact absurd hxe (hno x hx)
      have : (v.1 != 128) = true := by rw [bne, h128]; rfl
      rw [this]; rfl
    | false =>
      have h128 : (v.1 == 128) = true := by
        rcases hv2 with ⟨x, hx, hxe, rfl⟩ | ⟨_, rfl⟩
        · exfalso
          rcases there_can hb hx with hc | hc
          · rw [hxe] at hc; exact absurd (hs2.2 hc) (by decide)
          · rw [hxe] at hc; exact absurd (hr2.2 hc) (by decide)
        · rfl
      rw [h128]; rfl
end Go.V.W
