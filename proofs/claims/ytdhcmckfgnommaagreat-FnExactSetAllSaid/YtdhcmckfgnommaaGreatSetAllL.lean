/- The law FnExactSetAll: part of the proof that for every input it returns true. No condition. -/
import Derived.Test.YtdhcmckfgnommaaGreatSetAllB
namespace Go.V.W
set_option linter.unusedVariables false
set_option linter.unusedSimpArgs false
theorem leQ {n : Nat} (h : n ≤ M) : n ≤ 1100000 := Nat.le_trans h (by decide)
theorem mkB_of {b : Bridge} (h : BLe M b) : MkBridge b := by
  obtain ⟨_, h2, h3, h4, h5⟩ := h
  exact ⟨leQ h2, leQ h3, leQ h4, leQ h5⟩
theorem binds_wf {l : List Bind} (h : Cs.wf (.one (.sl cBind)) l) : XsLe maxLen l := by
  simp only [cBind, Cs.wf, CT.wf] at h
  refine ⟨h.1, fun x hx => bind_wf ?_⟩
  have := h.2 x hx
  simpa only [cBind, Cs.wf, CT.wf] using this
theorem fnExactSetAll_pure (b : Bridge) (l : List Bind) (h : Cs.wf cBridge b) (hx : Cs.wf (.one (.sl cBind)) l) : laws_FnExactSetAll b l = some true := by
  unfold laws_FnExactSetAll
  obtain ⟨r, h1, h2⟩ := szBridge (b := b) (left := 1048576) ⟨by omega, by omega⟩ (bridge_wf h)
  rw [h1, Option.bind_some]
  rcases h2 with rfl | ⟨k1, k2, k3⟩
  · rfl
  rw [dnlt (show ¬ r < 0 by omega), cond_false]
  obtain ⟨s, h3, h4⟩ := szBindS (l := l) (left := r) ⟨by omega, by omega⟩ (binds_wf hx)
  rw [h3, Option.bind_some]
  rcases h4 with rfl | ⟨k4, k5, k6⟩
  · rfl
  rw [dnlt (show ¬ s < 0 by omega), cond_false]
  have hb := bridge_bwf h k3
  obtain ⟨w, a1, a2, a3, _⟩ := setAllX hb k3 k6
  obtain ⟨x1, q1, e1, b1, c1, _⟩ := mkBridge (x := b) (mkB_of k3) (k := 1) (by omega) (by omega)
  obtain ⟨x2, q2, e2, b0, b2, c2, _⟩ := mkBindS (l := l) (leQ k6.1) (fun x hx => ⟨leQ (k6.2 x hx).1, leQ (k6.2 x hx).2.2⟩) (k := q1) (by omega) (by omega)
  obtain ⟨x3, q3, e3, b3, c3, f3⟩ := mkBridge (x := w.1) (mkB_of a3) (k := 1) (by omega) (by omega)
  simp only [toBridge k3, toBindS k6, a1, a2, eqBridge a3, eqBridge k3, eqBindS k6, e1, e2, e3, f3, Option.bind_some, Bool.not_true, cond_false, dnlt (show ¬ q2 < 0 by omega), dnlt (show ¬ q3 < 0 by omega), bne_self_eq_false]
end Go.V.W
