/- The law FnVlans: its functions as plain ones, what they come to, worked out. No condition. -/
import Derived.Test.YtloainegonlibaaVlansP
namespace Go.V.W
set_option linter.unusedVariables false
theorem at_bytes (p : List Int) (hw : ∀ x ∈ p, 0 ≤ x ∧ x ≤ 255) (hl : ¬ p.length > 1048576) (i : Int) (h0 : 0 ≤ i) (h1 : i ≤ 100) : ∃ a, q_laws_at p i = some a ∧ 0 ≤ a := by
  unfold q_laws_at
  cases hd : decide (i < (p.length : Int)) with
  | true =>
    have hlt : i.toNat < p.length := by have := of_decide_eq_true hd; omega
    have hat : at? p i = some p[i.toNat] := by unfold at?; rw [if_pos h0, List.getElem?_eq_getElem hlt]
    obtain ⟨k1, k2⟩ := hw _ (List.getElem_mem hlt)
    exact ⟨w64 p[i.toNat], by rw [hat]; rfl, by rw [w64_id (by omega) (by omega)]; exact k1⟩
  | false =>
    refine ⟨_, rfl, ?_⟩
    apply Int.tmod_nonneg
    have hn : (p.length : Int) ≤ 1048576 := by omega
    rw [w64_id (n := i * 31) (by omega) (by omega), w64_id (n := (p.length : Int) * 7) (by omega) (by omega), w64_id (by omega) (by omega)]
    omega
theorem mod4 {a : Int} (h : 0 ≤ a) : a.tmod 4 = 0 ∨ a.tmod 4 = 1 ∨ a.tmod 4 = 2 ∨ a.tmod 4 = 3 := by
  rw [Int.tmod_eq_emod_of_nonneg h]; omega
theorem mod2 {a : Int} (h : 0 ≤ a) : a.tmod 2 = 0 ∨ a.tmod 2 = 1 := by
  rw [Int.tmod_eq_emod_of_nonneg h]; omega
theorem fnVlans_pure (p : List Int) (hw : Cs.wf (.one (.sl (.one (.int .u8)))) p) : laws_FnVlans p = some true := by
  apply q_laws_FnVlans_le
  have hw := bytes_wf hw
  rw [vlO_eq]
  by_cases hl : p.length > 1048576
  · have hb : q_laws_big p = some true := by
      unfold q_laws_big
      have : decide ((p.length : Int) > 1048576) = true := decide_eq_true (by omega)
      rw [this]
    rw [hb, Option.bind_some, cond_true]
  · have hb : q_laws_big p = some false := by
      unfold q_laws_big
      have : decide ((p.length : Int) > 1048576) = false := decide_eq_false (by omega)
      rw [this]
    obtain ⟨a, ha, ha0⟩ := at_bytes p hw hl 2 (by omega) (by omega)
    obtain ⟨b, hb', hb0⟩ := at_bytes p hw hl 3 (by omega) (by omega)
    have key : vl (a.tmod 4) (b.tmod 2) = some true := by
      rcases mod4 ha0 with h | h | h | h <;> rcases mod2 hb0 with h' | h' <;> rw [h, h']
      · exact vl0
      · exact vl4
      · exact vl1
      · exact vl5
      · exact vl2
      · exact vl6
      · exact vl3
      · exact vl7
    rw [hb, ha, hb', vlO_some, Option.bind_some, cond_false]
    exact key
end Go.V.W
