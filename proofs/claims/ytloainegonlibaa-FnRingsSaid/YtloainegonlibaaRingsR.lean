/- The law FnRings: part of the proof that for every input it returns true. No condition. -/
import Derived.Test.YtloainegonlibaaRingsA
import Derived.Test.YtloainegonlibaaRingsB0
import Derived.Test.YtloainegonlibaaRingsB1
import Derived.Test.YtloainegonlibaaRingsB2
import Derived.Test.YtloainegonlibaaRingsC0
import Derived.Test.YtloainegonlibaaRingsC1
import Derived.Test.YtloainegonlibaaRingsC2
import Derived.Test.YtloainegonlibaaRingsC3
import Derived.Test.YtloainegonlibaaRingsC4
import Derived.Test.YtloainegonlibaaRingsC5
namespace Go.V.W
set_option linter.unusedVariables false
theorem at_bytes (p : List Int) (hw : ∀ x ∈ p, 0 ≤ x ∧ x ≤ 255) (hl : ¬ p.length > 1048576) (i : Int) (h0 : 0 ≤ i) (h1 : i ≤ 100) : ∃ a, q_laws_at p i = some a ∧ 0 ≤ a := by
  unfold q_laws_at
  simp only [qw_eq, qlt_eq, qat_eq]
  cases hd : decide (i < (p.length : Int)) with
  | true =>
    have hlt : i.toNat < p.length := by have := of_decide_eq_true hd; omega
    have hat : at? p i = some p[i.toNat] := by unfold at?; rw [if_pos h0, List.getElem?_eq_getElem hlt]
    obtain ⟨k1, k2⟩ := hw _ (List.getElem_mem hlt)
    exact ⟨w64 p[i.toNat], by rw [hat]; rfl, by rw [w64_id (by omega) (by omega)]; exact k1⟩
  | false =>
    refine ⟨_, rfl, ?_⟩
    apply Int.tmod_nonneg
    have hn : (p.length : Int) ≤ 1048576 := by omega
    rw [w64_id (n := i * 31) (by omega) (by omega), w64_id (n := (p.length : Int) * 7) (by omega) (by omega), w64_id (by omega) (by omega)]
    omega
theorem mod2 {a : Int} (h : 0 ≤ a) : a.tmod 2 = 0 ∨ a.tmod 2 = 1 := by
  rw [Int.tmod_eq_emod_of_nonneg h]; omega
theorem mod3 {a : Int} (h : 0 ≤ a) : a.tmod 3 = 0 ∨ a.tmod 3 = 1 ∨ a.tmod 3 = 2 := by
  rw [Int.tmod_eq_emod_of_nonneg h]; omega
theorem mod4 {a : Int} (h : 0 ≤ a) : a.tmod 4 = 0 ∨ a.tmod 4 = 1 ∨ a.tmod 4 = 2 ∨ a.tmod 4 = 3 := by
  rw [Int.tmod_eq_emod_of_nonneg h]; omega
theorem mod5 {a : Int} (h : 0 ≤ a) : a.tmod 5 = 0 ∨ a.tmod 5 = 1 ∨ a.tmod 5 = 2 ∨ a.tmod 5 = 3 ∨ a.tmod 5 = 4 := by
  rw [Int.tmod_eq_emod_of_nonneg h]; omega
theorem mod6 {a : Int} (h : 0 ≤ a) : a.tmod 6 = 0 ∨ a.tmod 6 = 1 ∨ a.tmod 6 = 2 ∨ a.tmod 6 = 3 ∨ a.tmod 6 = 4 ∨ a.tmod 6 = 5 := by
  rw [Int.tmod_eq_emod_of_nonneg h]; omega
theorem rings_case (a b c : Int) (ha : 0 ≤ a) (hb : 0 ≤ b) (hc : 0 ≤ c) : ((rem b (qw (3 + (a.tmod 4)))).bind fun t21 => rgR a (some c) t21) = some true := by
  rcases mod4 ha with h | h | h | h
  · have e1 : qw (3 + (a.tmod 4)) = 3 := by rw [h]; rfl
    have e2 : rem b 3 = some (b.tmod 3) := by unfold rem; rw [if_neg (by decide)]
    have e3 : rem c (qw (qw (3 + (a.tmod 4)) - 1)) = some (c.tmod 2) := by
      rw [e1]
      show rem c 2 = _
      unfold rem; rw [if_neg (by decide)]
    rw [e1, e2, Option.bind_some, rgR_some a c _ _ e3, h]
    rcases mod3 hb with k | k | k <;> rcases mod2 hc with l | l <;> rw [k, l]
    · exact rg0_0_0
    · exact rg0_0_1
    · exact rg0_1_0
    · exact rg0_1_1
    · exact rg0_2_0
    · exact rg0_2_1
  · have e1 : qw (3 + (a.tmod 4)) = 4 := by rw [h]; rfl
    have e2 : rem b 4 = some (b.tmod 4) := by unfold rem; rw [if_neg (by decide)]
    have e3 : rem c (qw (qw (3 + (a.tmod 4)) - 1)) = some (c.tmod 3) := by
      rw [e1]
      show rem c 3 = _
      unfold rem; rw [if_neg (by decide)]
    rw [e1, e2, Option.bind_some, rgR_some a c _ _ e3, h]
    rcases mod4 hb with k | k | k | k <;> rcases mod3 hc with l | l | l <;> rw [k, l]
    · exact rg1_0_0
    · exact rg1_0_1
    · exact rg1_0_2
    · exact rg1_1_0
    · exact rg1_1_1
    · exact rg1_1_2
    · exact rg1_2_0
    · exact rg1_2_1
    · exact rg1_2_2
    · exact rg1_3_0
    · exact rg1_3_1
    · exact rg1_3_2
  · have e1 : qw (3 + (a.tmod 4)) = 5 := by rw [h]; rfl
    have e2 : rem b 5 = some (b.tmod 5) := by unfold rem; rw [if_neg (by decide)]
    have e3 : rem c (qw (qw (3 + (a.tmod 4)) - 1)) = some (c.tmod 4) := by
      rw [e1]
      show rem c 4 = _
      unfold rem; rw [if_neg (by decide)]
    rw [e1, e2, Option.bind_some, rgR_some a c _ _ e3, h]
    rcases mod5 hb with k | k | k | k | k <;> rcases mod4 hc with l | l | l | l <;> rw [k, l]
    · exact rg2_0_0
    · exact rg2_0_1
    · exact rg2_0_2
    · exact rg2_0_3
    · exact rg2_1_0
    · exact rg2_1_1
    · exact rg2_1_2
    · exact rg2_1_3
    · exact rg2_2_0
    · exact rg2_2_1
    · exact rg2_2_2
    · exact rg2_2_3
    · exact rg2_3_0
    · exact rg2_3_1
    · exact rg2_3_2
    · exact rg2_3_3
    · exact rg2_4_0
    · exact rg2_4_1
    · exact rg2_4_2
    · exact rg2_4_3
  · have e1 : qw (3 + (a.tmod 4)) = 6 := by rw [h]; rfl
    have e2 : rem b 6 = some (b.tmod 6) := by unfold rem; rw [if_neg (by decide)]
    have e3 : rem c (qw (qw (3 + (a.tmod 4)) - 1)) = some (c.tmod 5) := by
      rw [e1]
      show rem c 5 = _
      unfold rem; rw [if_neg (by decide)]
    rw [e1, e2, Option.bind_some, rgR_some a c _ _ e3, h]
    rcases mod6 hb with k | k | k | k | k | k <;> rcases mod5 hc with l | l | l | l | l <;> rw [k, l]
    · exact rg3_0_0
    · exact rg3_0_1
    · exact rg3_0_2
    · exact rg3_0_3
    · exact rg3_0_4
    · exact rg3_1_0
    · exact rg3_1_1
    · exact rg3_1_2
    · exact rg3_1_3
    · exact rg3_1_4
    · exact rg3_2_0
    · exact rg3_2_1
    · exact rg3_2_2
    · exact rg3_2_3
    · exact rg3_2_4
    · exact rg3_3_0
    · exact rg3_3_1
    · exact rg3_3_2
    · exact rg3_3_3
    · exact rg3_3_4
    · exact rg3_4_0
    · exact rg3_4_1
    · exact rg3_4_2
    · exact rg3_4_3
    · exact rg3_4_4
    · exact rg3_5_0
    · exact rg3_5_1
    · exact rg3_5_2
    · exact rg3_5_3
    · exact rg3_5_4
theorem fnRings_pure (p : List Int) (hw : Cs.wf (.one (.sl (.one (.int .u8)))) p) : laws_FnRings p = some true := by
  apply q_laws_FnRings_le
  have hw := bytes_wf hw
  rw [rg_eq]
  by_cases hl : p.length > 1048576
  · have hb : q_laws_big p = some true := by
      unfold q_laws_big
      simp only [qlt_eq]
      have : decide ((1048576 : Int) < (p.length : Int)) = true := decide_eq_true (by omega)
      rw [this]
    rw [hb, Option.bind_some, cond_true]
  · have hb : q_laws_big p = some false := by
      unfold q_laws_big
      simp only [qlt_eq]
      have : decide ((1048576 : Int) < (p.length : Int)) = false := decide_eq_false (by omega)
      rw [this]
    obtain ⟨a, ha, ha0⟩ := at_bytes p hw hl 2 (by omega) (by omega)
    obtain ⟨b, hb', hb0⟩ := at_bytes p hw hl 3 (by omega) (by omega)
    obtain ⟨c, hc, hc0⟩ := at_bytes p hw hl 4 (by omega) (by omega)
    rw [hb, Option.bind_some, cond_false, ha, Option.bind_some, hb', Option.bind_some, hc]
    exact rings_case a b c ha0 hb0 hc0
end Go.V.W
