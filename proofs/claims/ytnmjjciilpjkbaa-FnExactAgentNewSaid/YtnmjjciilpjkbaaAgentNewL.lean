/- The law FnExactAgentNew: part of the proof that for every input it returns true. No condition. -/
import Derived.Test.YtnmjjciilpjkbaaAgentNewB
namespace Go.V.W
set_option linter.unusedVariables false
set_option linter.unusedSimpArgs false
noncomputable def newA (b : Bridge) (w : List UInt8) : Agent :=
  cond (!(pBridge b) || decide ((w.length : Int) > 20)) (0, [], [], [], [], [], 0, 0, 0, 0, 0, [], [], 0, 0)
    (b.1, b.2.1, b.2.2.1, b.2.2.2.1, b.2.2.2.2.1, b.2.2.2.2.2.1, b.2.2.2.2.2.2.1, b.2.2.2.2.2.2.2.1, b.2.2.2.2.2.2.2.2.1, b.2.2.2.2.2.2.2.2.2.1, b.2.2.2.2.2.2.2.2.2.2, w, [], 0, 0)
theorem newT {b : Bridge} (h : BWf b) (hl : BLe M b) (w : List UInt8) : impl_AgentNew b w = some (newA b w) := by
  unfold impl_AgentNew newA
  rw [bridgeT h, Option.bind_some]
  cases pBridge b with
  | false => rfl
  | true =>
    rw [Bool.not_true, cond_false, Option.bind_some, Bool.false_or]
    cases decide ((w.length : Int) > 20) with
    | true => rfl
    | false => rw [cond_false, copyBridge hl]; rfl
theorem newS {b : Bridge} (h : BWf b) (hl : BLe M b) (w : List UInt8) : spec_AgentNew b w = some (newA b w) := by
  unfold spec_AgentNew newA
  rw [bridgeS h, Option.bind_some]
  cases pBridge b with
  | false => rfl
  | true =>
    rw [Bool.not_true, cond_false, Option.bind_some, Bool.false_or]
    cases decide ((w.length : Int) > 20) with
    | true => rfl
    | false => rw [cond_false, copyBridgeS hl]; rfl
theorem newLe {b : Bridge} (hl : BLe M b) {w : List UInt8} (hw : w.length ≤ M) : ALe M (newA b w) ∧ (newA b w).2.2.2.2.2.2.2.2.2.2.2.2.1 = [] := by
  unfold newA
  cases (!(pBridge b) || decide ((w.length : Int) > 20)) with
  | true => exact ⟨⟨⟨by simp [aB], by simp [aB], by simp [aB], by simp [aB], by simp [aB]⟩, by simp, by simp, by simp⟩, rfl⟩
  | false => exact ⟨⟨hl, hw, by simp, by simp⟩, rfl⟩
theorem leQ {n : Nat} (h : n ≤ M) : n ≤ 1100000 := Nat.le_trans h (by decide)
theorem mkB_of {b : Bridge} (h : BLe M b) : MkBridge b := by
  obtain ⟨_, h2, h3, h4, h5⟩ := h
  exact ⟨leQ h2, leQ h3, leQ h4, leQ h5⟩
theorem fnExactAgentNew_pure (b : Bridge) (w : List UInt8) (h : Cs.wf cBridge b) : laws_FnExactAgentNew b w = some true := by
  unfold laws_FnExactAgentNew
  by_cases hd : (w.length : Int) > 1048576
  · rw [decide_eq_true hd]; rfl
  rw [decide_eq_false hd, cond_false]
  obtain ⟨r, h1, h2⟩ := szBridge (b := b) (left := 1048576) ⟨by omega, by omega⟩ (bridge_wf h)
  rw [h1, Option.bind_some]
  rcases h2 with rfl | ⟨k1, k2, k3⟩
  · rfl
  · have hb := bridge_bwf h k3
    obtain ⟨a1, a2⟩ := newLe k3 (w := w) (by show w.length ≤ 1048576; omega)
    have ha : MkAgent (newA b w) := by
      obtain ⟨a3, _, _, _⟩ := a1
      have hj : (newA b w).2.2.2.2.2.2.2.2.2.2.2.2.1 = [] := a2
      have hm := mkB_of a3
      refine ⟨hm.1, hm.2.1, hm.2.2.1, hm.2.2.2, ?_⟩
      rw [hj]
      exact ⟨by simp, by simp⟩
    obtain ⟨x1, q1, e1, b1, c1, _⟩ := mkBridge (x := b) (mkB_of k3) (k := 1) (by omega) (by omega)
    obtain ⟨x2, q2, e2, b2, c2, f2⟩ := mkAgent (x := newA b w) ha (k := 1) (by omega) (by omega)
    rw [dnlt (show ¬ r < 0 by omega), cond_false]
    simp only [toBridge k3, newT hb k3, newS hb k3, eqAgent a1, eqBridge k3, e1, e2, f2, Option.bind_some, Bool.not_true, cond_false, dnlt (show ¬ q1 < 0 by omega), dnlt (show ¬ q2 < 0 by omega), bne_self_eq_false]
end Go.V.W
