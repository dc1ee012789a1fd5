/- The law FnOneByOne: part of the proof that for every input it returns true. No condition. -/
import Derived.Test.YtdhcmckfgnommaaGreatOneByOneB
namespace Go.V.W
set_option linter.unusedVariables false
set_option linter.unusedSimpArgs false
noncomputable def oneA (b : Bridge) (x : Bind) : Bridge × Int := cond (pBridge b) ((spec_l18One b x).getD (b, 0)) (b, 3)
theorem one_both {b : Bridge} {x : Bind} (h : BWf b) (hl : BLe M b) (hx : XLe M x) : impl_SetOne b x = some (oneA b x) ∧ spec_SetOne b x = some (oneA b x) ∧ BLe M (oneA b x).1 ∧ ((oneA b x).2 ≠ 0 → (oneA b x).1 = b) ∧
    ((pBridge b = false ∧ (oneA b x).2 = 3) ∨ (pBridge b = true ∧ ∃ y, impl_Bridge_set b x = some (y, (oneA b x).2))) := by
  unfold impl_SetOne spec_SetOne oneA
  rw [copyBridge hl, copyBridgeS hl, bridgeT h, bridgeS h]
  simp only [Option.bind_some]
  cases hp : pBridge b with
  | false => exact ⟨rfl, rfl, hl, fun _ => rfl, .inl ⟨rfl, rfl⟩⟩
  | true =>
    obtain ⟨r, r1, r2, r3, r4⟩ := setOne (bok h hp).sok hx.1
    simp only [Bool.not_true, cond_false, cond_true, r1, r2, Option.bind_some, Option.getD_some]
    refine ⟨?_, trivial, r3.le, r4, .inr ⟨trivial, r.1, rfl⟩⟩
    obtain ⟨y, c⟩ := r
    cases hc : (c != 0) with
    | true =>
      have : y = b := r4 (bne_iff_ne.1 hc)
      subst this; rfl
    | false =>
      have : c = 0 := by simpa using hc
      subst this; rfl
theorem steps_nil {b y : Bridge} (h : Steps b [] y) : y = b := by
  generalize hl : ([] : List Bind) = l at h
  cases h with
  | nil => rfl
  | snoc => simp at hl
theorem steps_one {b y : Bridge} {x : Bind} (h : Steps b [x] y) : impl_Bridge_set b x = some (y, 0) := by
  generalize hl : [x] = l at h
  cases h with
  | nil => simp at hl
  | @snoc l y' _ x' h1 _ h2 =>
    have : l = [] ∧ x' = x := by
      cases l with
      | nil => simpa [eq_comm] using hl
      | cons a l => simp at hl
    obtain ⟨rfl, rfl⟩ := this
    rw [steps_nil h1] at h2
    exact h2
theorem fnOneByOne_pure (code : List Int) : laws_FnOneByOne code = some true := by
  unfold laws_FnOneByOne laws_big
  by_cases hbig : (code.length : Int) > 1048576
  · simp only [decide_eq_true hbig, Option.bind_some, cond_true]
  simp only [decide_eq_false hbig, Option.bind_some, cond_false]
  have hone : ∃ b x, spec_DrawSetOne code = some (b, x) ∧ BWf b ∧ BLe M b ∧ XLe M x := by
    obtain ⟨c0, e0, w0⟩ := newD (code := code) (by omega)
    obtain ⟨c1, b, e1, w1, hb, hp⟩ := bridgeD w0
    obtain ⟨c2, t, e2, w2⟩ := onceD w1 12
    unfold spec_DrawSetOne
    rw [e0, Option.bind_some, e1, Option.bind_some]
    simp only
    rw [e2, Option.bind_some]
    cases t with
    | true =>
      obtain ⟨c3, b3, e3, w3, hb3, hl3⟩ := anyL w2
      obtain ⟨c4, x, e4, w4, hx⟩ := drBind w3 hb3 (fun c hc => by obtain ⟨c', o, e, w, h⟩ := nameA hc hb3; exact ⟨c', o, e, w, h⟩)
      refine ⟨b3, x, ?_, hb3, hl3, hx.le⟩
      simp only [cond_true, e3, Option.bind_some, e4]
    | false =>
      obtain ⟨c4, x, e4, w4, hx⟩ := drBind w2 hb (fun c hc => by obtain ⟨c', o, e, w, h⟩ := nameA hc hb; exact ⟨c', o, e, w, h⟩)
      refine ⟨b, x, ?_, hb, (bok hb hp).le, hx.le⟩
      simp only [cond_false, Option.bind_some, e4]
  have hall : ∃ b l, spec_DrawSetAll code = some (b, l) ∧ BWf b ∧ BLe M b ∧ XsLe M l := by
    have hM : M = 1048576 := rfl
    obtain ⟨c0, e0, w0⟩ := newD (code := code) (by omega)
    obtain ⟨c1, b, e1, w1, hb, hp⟩ := bridgeD w0
    obtain ⟨c2, t, e2, w2⟩ := onceD w1 12
    unfold spec_DrawSetAll
    rw [e0, Option.bind_some, e1, Option.bind_some]
    simp only
    rw [e2, Option.bind_some]
    cases t with
    | true =>
      obtain ⟨c3, b3, e3, w3, hb3, hl3⟩ := anyL w2
      obtain ⟨c4, x, e4, w4, hx, hx2⟩ := drBinds w3 hb3 (fun c hc => by obtain ⟨c', o, e, w, h⟩ := nameA hc hb3; exact ⟨c', o, e, w, h⟩)
      refine ⟨b3, x, ?_, hb3, hl3, by omega, fun y hy => (hx2 y hy).le⟩
      simp only [cond_true, e3, Option.bind_some, e4]
    | false =>
      obtain ⟨c4, x, e4, w4, hx, hx2⟩ := drBinds w2 hb (fun c hc => by obtain ⟨c', o, e, w, h⟩ := nameA hc hb; exact ⟨c', o, e, w, h⟩)
      refine ⟨b, x, ?_, hb, (bok hb hp).le, by omega, fun y hy => (hx2 y hy).le⟩
      simp only [cond_false, Option.bind_some, e4]
  obtain ⟨b, x, e1, hb, hl, hx⟩ := hone
  obtain ⟨u, l, e2, hu, hlu, hxs⟩ := hall
  obtain ⟨a1, a2, a3, a4, a5⟩ := one_both hb hl hx
  obtain ⟨r, r1, r2, r3, r4, r5⟩ := setAllX hu hlu hxs
  obtain ⟨s, s1, s2, s3, s4, s5⟩ := setAllX hb hl (l := [x]) ⟨by show 1 ≤ 1048576; decide, by simpa using hx⟩
  have hlast : (cond (s.2.1 == (oneA b x).2) (some true) ((cond ((oneA b x).2 == 0) (some (s.2.1 == 5)) (some false)).bind fun t110 => some t110)) = some true := by
    have h2 : s.2.1 = (oneA b x).2 ∨ ((oneA b x).2 = 0 ∧ s.2.1 = 5) := by
      rcases s5 with ⟨q1, _, q2⟩ | ⟨_, q0, _, _, q2⟩
      · rcases q2 with ⟨q2, _⟩ | ⟨y, q2, _⟩
        · cases q2
        · have := steps_one q2
          rcases a5 with ⟨hp, _⟩ | ⟨hp, y', hy'⟩
          · exfalso
            have hf : impl_SetAll b [x] = some (b, 3, 1) := by
              unfold impl_SetAll
              rw [copyBridge hl, bridgeT hb, hp]; rfl
            rw [hf] at s1
            cases s1
            cases q1
          · rw [hy'] at this
            have : (oneA b x).2 = 0 := congrArg Prod.snd (Option.some.inj this)
            exact .inl (by rw [q1, this])
      · rcases q2 with ⟨q2, q3⟩ | ⟨k, y, hk, q2, q4, q3⟩ | ⟨y, q2, q3⟩
        · rcases a5 with ⟨hp, h3⟩ | ⟨hp, _⟩
          · exact .inl (by rw [q3, h3])
          · rw [q2] at hp; cases hp
        · have hk0 : k = 0 := by simpa using hk
          subst hk0
          rw [List.take_zero] at q2
          have := steps_nil q2
          subst this
          rcases q3 with ⟨⟨j, hj, _⟩, _⟩ | ⟨y', q3⟩
          · exact absurd hj (Nat.not_lt_zero _)
          · have q3' : impl_Bridge_set y x = some (y', s.2.1) := q3
            rcases a5 with ⟨hp, h3⟩ | ⟨hp, y2, hy2⟩
            · refine .inl ?_
              have hf : impl_SetAll y [x] = some (y, 3, 1) := by
                unfold impl_SetAll
                rw [copyBridge hl, bridgeT hb, hp]; rfl
              rw [hf] at s1
              rw [h3, ← Option.some.inj s1]
            · rw [hy2] at q3'
              exact .inl (congrArg Prod.snd (Option.some.inj q3')).symm
        · have := steps_one q2
          rcases a5 with ⟨hp, h3⟩ | ⟨hp, y2, hy2⟩
          · refine .inl ?_
            have hf : impl_SetAll b [x] = some (b, 3, 1) := by
              unfold impl_SetAll
              rw [copyBridge hl, bridgeT hb, hp]; rfl
            rw [hf] at s1
            rw [h3, ← Option.some.inj s1]
          · rw [hy2] at this
            have h0 : (oneA b x).2 = 0 := congrArg Prod.snd (Option.some.inj this)
            exact .inr ⟨h0, q3⟩
    rcases h2 with h | ⟨h, k⟩
    · rw [h, beq_self_eq_true]; rfl
    · rw [h, k]; rfl
  have hs3 : BLe M (oneA b x).1 := a3
  have hmid : (cond ((oneA b x).2 != 0) ((impl_SameBridge (oneA b x).1 b).bind fun t89 => some (!t89)) (some false)) = some false := by
    cases h : ((oneA b x).2 != 0) with
    | false => rfl
    | true => rw [a4 (bne_iff_ne.1 h), sameL hl]; rfl
  simp only [e1, e2, Option.bind_some, a1, a2, r1, r2, s1, bne_self_eq_false, cond_false, sameL a3, sameL r3, Bool.not_true, hmid, hlast]
end Go.V.W
