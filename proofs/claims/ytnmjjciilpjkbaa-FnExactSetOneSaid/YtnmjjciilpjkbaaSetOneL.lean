/- The law FnExactSetOne: part of the proof that for every input it returns true. No condition. -/
import Derived.Test.YtnmjjciilpjkbaaSetOneB
namespace Go.V.W
set_option linter.unusedVariables false
set_option linter.unusedSimpArgs false
noncomputable def oneA (b : Bridge) (x : Bind) : Bridge × Int := cond (pBridge b) ((spec_l18One b x).getD (b, 0)) (b, 3)
theorem one_both {b : Bridge} {x : Bind} (h : BWf b) (hl : BLe M b) (hx : XLe M x) : impl_SetOne b x = some (oneA b x) ∧ spec_SetOne b x = some (oneA b x) ∧ BLe M (oneA b x).1 := by
  unfold impl_SetOne spec_SetOne oneA
  rw [copyBridge hl, copyBridgeS hl, bridgeT h, bridgeS h]
  simp only [Option.bind_some]
  cases hp : pBridge b with
  | false => exact ⟨rfl, rfl, hl⟩
  | true =>
    obtain ⟨r, r1, r2, r3, r4⟩ := setOne (bok h hp).sok hx.1
    simp only [Bool.not_true, cond_false, cond_true, r1, r2, Option.bind_some, Option.getD_some]
    refine ⟨?_, trivial, r3.le⟩
    obtain ⟨y, c⟩ := r
    cases hc : (c != 0) with
    | true =>
      have : y = b := r4 (bne_iff_ne.1 hc)
      subst this; rfl
    | false =>
      have : c = 0 := by simpa using hc
      subst this; rfl
theorem leQ {n : Nat} (h : n ≤ M) : n ≤ 1100000 := Nat.le_trans h (by decide)
theorem mkB_of {b : Bridge} (h : BLe M b) : MkBridge b := by
  obtain ⟨_, h2, h3, h4, h5⟩ := h
  exact ⟨leQ h2, leQ h3, leQ h4, leQ h5⟩
theorem fnExactSetOne_pure (b : Bridge) (x : Bind) (h : Cs.wf cBridge b) (hx : Cs.wf cBind x) : laws_FnExactSetOne b x = some true := by
  unfold laws_FnExactSetOne
  obtain ⟨r, h1, h2⟩ := szBridge (b := b) (left := 1048576) ⟨by omega, by omega⟩ (bridge_wf h)
  rw [h1, Option.bind_some]
  rcases h2 with rfl | ⟨k1, k2, k3⟩
  · rfl
  rw [dnlt (show ¬ r < 0 by omega), cond_false]
  obtain ⟨s, h3, h4⟩ := szBind (x := x) (left := r) ⟨by omega, by omega⟩ (bind_wf hx)
  rw [h3, Option.bind_some]
  rcases h4 with rfl | ⟨k4, k5, k6⟩
  · rfl
  rw [dnlt (show ¬ s < 0 by omega), cond_false]
  have hb := bridge_bwf h k3
  obtain ⟨a1, a2, a3⟩ := one_both hb k3 k6
  obtain ⟨x1, q1, e1, b1, c1, _⟩ := mkBridge (x := b) (mkB_of k3) (k := 1) (by omega) (by omega)
  obtain ⟨x2, q2, e2, b2, c2, _⟩ := mkBind (x := x) ⟨leQ k6.1, leQ k6.2.2⟩ (k := q1) (by omega) (by omega)
  obtain ⟨x3, q3, e3, b3, c3, f3⟩ := mkBridge (x := (oneA b x).1) (mkB_of a3) (k := 1) (by omega) (by omega)
  simp only [toBridge k3, toBind k6, a1, a2, eqBridge a3, eqBridge k3, eqBind k6, e1, e2, e3, f3, Option.bind_some, Bool.not_true, cond_false, dnlt (show ¬ q2 < 0 by omega), dnlt (show ¬ q3 < 0 by omega), bne_self_eq_false]
end Go.V.W
