/- The law FnExactPlaces: part of the proof that for every input it returns true. No condition. -/
import Derived.Test.YtloainegonlibaaMib2
import Derived.KernelRfl
namespace Go.V.W
set_option linter.unusedVariables false
set_option linter.unusedSimpArgs false
/-! ### roles -/
theorem lessS : spec_LessVec = impl_LessVec := rfl
theorem lessT (a b : Vec) : ∃ r, impl_LessVec a b = some r := by
  unfold impl_LessVec
  cases (a.1 != b.1) <;> cases (a.2.1 != b.2.1) <;> cases (a.2.2.2.1 != b.2.2.2.1) <;> exact ⟨_, rfl⟩
theorem stepS : spec_StepVec = impl_StepVec := rfl
theorem stepT (v : Vec) (c : Int) : ∃ r, impl_StepVec v c = some r := by
  unfold impl_StepVec
  simp only [vecT, inT, Option.bind_some]
  cases pVec v <;> cases pIn c 1 1000 <;> first | exact ⟨_, rfl⟩ | skip
  generalize pVec (v.1, w64 (v.2.1 + c), w64 (v.2.2.1 + 1), v.2.2.2.1, v.2.2.2.2) = q
  cases q <;> exact ⟨_, rfl⟩
theorem bestL (p0 : Int) (l : List Pt) (t8 t9 b0 b1 b2 b3 b4 c0 c1 c2 c3 c4 : Int) : spec_BestVec_l0 p0 l t8 t9 b0 b1 b2 b3 b4 c0 c1 c2 c3 c4 = impl_BestVec_l0 p0 l t8 t9 b0 b1 b2 b3 b4 c0 c1 c2 c3 c4 := by
  unfold spec_BestVec_l0 impl_BestVec_l0
  rw [stepS, lessS]
  cases h : at? l t9 with
  | none => rfl
  | some x => simp only [Option.bind_some]
theorem bestS : spec_BestVec = impl_BestVec := by
  funext p0 l
  unfold spec_BestVec impl_BestVec
  rw [loop_ext (fun z => bestL p0 l _ _ _ _ _ _ _ _ _ _ _ _)]
theorem bestT (p0 : Int) {l : List Pt} (hn : l.length < 9223372036854775807) : ∃ r, impl_BestVec p0 l = some r := by
  unfold impl_BestVec
  obtain ⟨b, h1, _⟩ := loop_inv (step := fun z : Int × Int × Int × Int × Int × Int × Int × Int × Int × Int × Int × Int => impl_BestVec_l0 p0 l z.1 z.2.1 z.2.2.1 z.2.2.2.1 z.2.2.2.2.1 z.2.2.2.2.2.1 z.2.2.2.2.2.2.1 z.2.2.2.2.2.2.2.1 z.2.2.2.2.2.2.2.2.1 z.2.2.2.2.2.2.2.2.2.1 z.2.2.2.2.2.2.2.2.2.2.1 z.2.2.2.2.2.2.2.2.2.2.2)
    (fun k z => z.2.1 = (k : Int)) l.length (fun _ => True)
    (fun k z hk h => by
      left
      obtain ⟨t7, t18, b0, b1, b2, b3, b4, c0, c1, c2, c3, c4⟩ := z
      obtain rfl : t18 = (k : Int) := h
      unfold impl_BestVec_l0
      simp only [dlt (show (k : Int) < (l.length : Int) by omega), cond_true, at_nat hk, Option.bind_some]
      rw [show w64 ((k : Int) + 1) = ((k + 1 : Nat) : Int) from w64_nat (by omega)]
      generalize l[k] = x
      have e : (cond (!x.1) (some true) (some (!x.2.2.1)) : Option Bool) = some (cond (!x.1) true (!x.2.2.1)) := by cases x.1 <;> rfl
      rw [e, Option.bind_some]
      cases (cond (!x.1) true (!x.2.2.1)) with
      | true => exact ⟨_, rfl, rfl⟩
      | false =>
        obtain ⟨r, hr⟩ := stepT x.2.2.2 x.2.1
        obtain ⟨q, hq⟩ := lessT r.1 (c0, c1, c2, c3, c4)
        rw [cond_false, hr, Option.bind_some, hq]
        cases r.2 <;> cases decide (r.1.1 < p0) <;> cases decide (t7 < 0) <;> cases q <;> exact ⟨_, rfl, rfl⟩)
    (fun z h => by
      obtain ⟨t7, t18, b0, b1, b2, b3, b4, c0, c1, c2, c3, c4⟩ := z
      obtain rfl : t18 = (l.length : Int) := h
      unfold impl_BestVec_l0
      simp only [dnlt (show ¬ (l.length : Int) < (l.length : Int) by omega), cond_false]
      exact ⟨_, rfl, trivial⟩) (x := ((-1), 0, p0, 0, 0, p0, 0, 0, 0, 0, 0, 0)) rfl
  rw [h1, Option.bind_some]
  exact ⟨_, rfl⟩
theorem sayS : spec_SayVec = impl_SayVec := by
  funext id l p
  unfold spec_SayVec impl_SayVec
  rw [bestS]
theorem roleS : spec_RoleOf = impl_RoleOf := by
  funext id l p
  unfold spec_RoleOf impl_RoleOf
  rw [bestS, sayS, lessS]
  rfl
theorem roleT (id : Int) {l : List Pt} (hn : l.length < 9223372036854775807) (p : Int) : ∃ r, impl_RoleOf id l p = some r := by
  obtain ⟨v, hv⟩ := bestT id hn
  unfold impl_RoleOf impl_SayVec
  simp only [inT, Option.bind_some, hv]
  rw [show w64 ((l.length : Int) - 1) = (l.length : Int) - 1 from w64_id (by omega) (by omega)]
  cases hp : pIn p 0 ((l.length : Int) - 1) with
  | false => exact ⟨_, rfl⟩
  | true =>
    unfold pIn at hp
    simp only [Bool.and_eq_true, decide_eq_true_eq] at hp
    obtain ⟨k, rfl⟩ : ∃ k : Nat, p = (k : Int) := ⟨p.toNat, by omega⟩
    simp only [at_nat (show k < l.length by omega), Option.bind_some]
    generalize l[k]'(by omega) = x
    obtain ⟨q, hq⟩ := lessT (v.1.1, v.1.2.1, v.1.2.2.1, v.1.2.2.2.1, (k : Int)) x.2.2.2
    rw [hq]
    cases x.1 <;> cases (v.2 == (k : Int)) <;> cases x.2.2.1 <;> cases q <;> exact ⟨_, rfl⟩
theorem portS (b : Bridge) (c p : Int) : spec_l17Port b c p = impl_portThing b c p := by
  unfold spec_l17Port impl_portThing impl_bit
  rw [roleS]
  cases at? b.2.2.1 p with
  | none => rfl
  | some x => simp only [Option.bind_some]; cases x.1 <;> rfl
/-! ### things -/
theorem add_same {α : Type} (out : List Bind) (name : List Int) (n : Int) (f : List Bind → Option α) : ((impl_number n).bind fun v => (impl_thing v name).bind fun t => (app out [t]).bind f) = (spec_l17Add out name n).bind f := by
  unfold impl_number impl_thing spec_l17Add spec_l17Name spec_l3Int
  simp only [Option.bind_some, Option.bind_assoc]
theorem mibPorts (b : Bridge) (c i : Int) (out : List Bind) : spec_MibList_l2 b c i out = impl_MibList_l4 b c i out := by
  unfold spec_MibList_l2 impl_MibList_l4
  simp only [portS, add_same]
theorem rowS {r : Vrow} {c : Int} (h : 1 ≤ c ∧ c ≤ 3) : ((ix [1, r.2.1, r.2.2].length (w64 (c - 1))).bind fun j => ([1, r.2.1, r.2.2][j]?).bind fun x => some x) = spec_l17Row r c := by
  have : c = 1 ∨ c = 2 ∨ c = 3 := by omega
  rcases this with rfl | rfl | rfl <;> rfl
theorem mibRows (b : Bridge) {c : Int} (h : 1 ≤ c ∧ c ≤ 3) (i : Int) (out : List Bind) : spec_MibList_l6 b c i out = impl_MibList_l8 b c i out := by
  unfold spec_MibList_l6 impl_MibList_l8
  cases hr : at? b.2.2.2.2.1 i with
  | none => rfl
  | some r =>
    simp only [Option.bind_some, ← rowS (r := r) h, Option.bind_assoc, add_same]
theorem mibFdb (b : Bridge) (i : Int) (out : List Bind) : spec_MibList_l8 b i out = impl_MibList_l10 b i out := by
  unfold spec_MibList_l8 impl_MibList_l10
  cases hr : at? b.2.2.2.1 i with
  | none => rfl
  | some r => simp only [Option.bind_some, add_same]
theorem mibL2 (b : Bridge) (c : Int) (out : List Bind) : spec_MibList_l0 b c out = impl_MibList_l2 b c out := by
  unfold spec_MibList_l0 impl_MibList_l2
  rw [loop_ext (fun z => mibPorts b c _ _)]
theorem mibL6 (b : Bridge) {c : Int} (h : 1 ≤ c) (out : List Bind) : spec_MibList_l4 b c out = impl_MibList_l6 b c out := by
  unfold spec_MibList_l4 impl_MibList_l6
  by_cases h3 : c ≤ 3
  · rw [loop_ext (fun z => mibRows b ⟨h, h3⟩ _ _)]
  · rw [decide_eq_false h3]; rfl
theorem mibL6_next (b : Bridge) {c : Int} {out : List Bind} {y : Int × List Bind} (h : 1 ≤ c) (e : spec_MibList_l4 b c out = some (.inl y)) : 1 ≤ y.1 := by
  unfold spec_MibList_l4 at e
  by_cases h3 : c ≤ 3
  · rw [decide_eq_true h3, cond_true, Option.bind_eq_some_iff] at e
    obtain ⟨d, _, e⟩ := e
    cases e
    show 1 ≤ w64 (c + 1)
    rw [w64_id (by omega) (by omega)]; omega
  · rw [decide_eq_false h3] at e; cases e
/-- The first five. -/
def mib5 (b : Bridge) : List Bind := [([1, 3, 1, 1, 1], 4, 0, b.2.1, []), ([1, 3, 1, 1, 2], 2, b.2.2.2.2.2.2.1, [], []), ([1, 3, 1, 1, 3], 2, b.2.2.2.2.2.2.2.1, [], []), ([1, 3, 1, 1, 4], 2, b.2.2.2.2.2.2.2.2.1, [], []), ([1, 3, 1, 1, 5], 2, b.2.2.2.2.2.2.2.2.2.1, [], [])]
theorem mibA (b : Bridge) : impl_thing (4, 0, b.2.1, []) ([1, 1] : List Int) = some ([1, 3, 1, 1, 1], 4, 0, b.2.1, []) := by kernel_rfl
theorem mibB (b : Bridge) : iter (fun z => impl_MibList_l0 b z.1 z.2) 5 (0, [([1, 3, 1, 1, 1], 4, 0, b.2.1, [])]) = some (mib5 b) := by kernel_rfl
theorem mibC (b : Bridge) : ((spec_l17Name ([1, 1] : List Int)).bind fun t14 => (spec_l17Add ([(t14, 4, 0, b.2.1, [])]) ([1, 2] : List Int) b.2.2.2.2.2.2.1).bind fun t24 => (spec_l17Add t24 ([1, 3] : List Int) b.2.2.2.2.2.2.2.1).bind fun t29 =>
    (spec_l17Add t29 ([1, 4] : List Int) b.2.2.2.2.2.2.2.2.1).bind fun t34 => (spec_l17Add t34 ([1, 5] : List Int) b.2.2.2.2.2.2.2.2.2.1)) = some (mib5 b) := by kernel_rfl
noncomputable def mibRest (b : Bridge) (l : List Bind) : Option (List Bind) :=
  (loop (fun z => impl_MibList_l2 b z.1 z.2) (1, l)).bind fun d_2 =>
    (loop (fun z => impl_MibList_l6 b z.1 z.2) (1, d_2)).bind fun d_4 =>
    (loop (fun z => impl_MibList_l10 b z.1 z.2) (0, d_4)).bind fun d_5 =>
    some d_5
theorem mibT {b : Bridge} (h : BWf b) : impl_MibList b = cond (!(pBridge b)) (some []) (mibRest b (mib5 b)) := by
  unfold impl_MibList
  rw [bridgeT h, Option.bind_some, mibA, Option.bind_some, loop_of (mibB b), Option.bind_some]
  rfl
theorem mibS {b : Bridge} (h : BWf b) : spec_MibList b = cond (!(pBridge b)) (some []) (mibRest b (mib5 b)) := by
  unfold spec_MibList
  rw [bridgeS h, Option.bind_some]
  have hc := mibC b
  have e : ∀ {α : Type} (f : List Bind → Option α), ((spec_l17Name ([1, 1] : List Int)).bind fun t14 => (spec_l17Add ([(t14, 4, 0, b.2.1, [])]) ([1, 2] : List Int) b.2.2.2.2.2.2.1).bind fun t24 => (spec_l17Add t24 ([1, 3] : List Int) b.2.2.2.2.2.2.2.1).bind fun t29 =>
    (spec_l17Add t29 ([1, 4] : List Int) b.2.2.2.2.2.2.2.2.1).bind fun t34 => (spec_l17Add t34 ([1, 5] : List Int) b.2.2.2.2.2.2.2.2.2.1).bind f) = f (mib5 b) := by
    intro α f
    have : ((spec_l17Name ([1, 1] : List Int)).bind fun t14 => (spec_l17Add ([(t14, 4, 0, b.2.1, [])]) ([1, 2] : List Int) b.2.2.2.2.2.2.1).bind fun t24 => (spec_l17Add t24 ([1, 3] : List Int) b.2.2.2.2.2.2.2.1).bind fun t29 =>
      (spec_l17Add t29 ([1, 4] : List Int) b.2.2.2.2.2.2.2.2.1).bind fun t34 => (spec_l17Add t34 ([1, 5] : List Int) b.2.2.2.2.2.2.2.2.2.1)).bind f = f (mib5 b) := by rw [hc, Option.bind_some]
    rw [← this]
    simp only [Option.bind_assoc]
  rw [e]
  congr 1
  unfold mibRest
  rw [loop_ext (fun z => mibL2 b _ _)]
  congr 1
  funext d
  rw [loop_congr (fun z : Int × List Bind => 1 ≤ z.1) (fun z hz => mibL6 b hz _) (fun z y hz e => mibL6_next b hz e) (show (1 : Int) ≤ 1 by omega)]
  congr 1
  funext d
  rw [loop_ext (fun z => mibFdb b _ _)]
theorem mib_same {b : Bridge} (h : BWf b) : spec_MibList b = impl_MibList b := by rw [mibS h, mibT h]
end Go.V.W
