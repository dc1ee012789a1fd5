/- The law FnMibs: part of the proof that for every input it returns true. No condition. -/
import Derived.Test.YtloainegonlibaaMibY
namespace Go.V.W
set_option linter.unusedVariables false
set_option linter.unusedSimpArgs false
/-! ### each is right -/
theorem sameO {a b : List Int} (h : b.length < 9223372036854775807) : impl_SameOid a b = some (a == b) := by
  unfold impl_SameOid
  by_cases hl : a.length = b.length
  · have e : ((a.length : Int) != (b.length : Int)) = false := by rw [hl]; simp
    rw [e, cond_false]
    obtain ⟨v, h1, rfl⟩ := loop_inv (step := fun z => impl_SameOid_l0 a b z) (fun k i => i = (k : Int) ∧ a.take k = b.take k) a.length (fun v => v = cond (a == b) (.inl ()) (.inr false))
      (fun k i hk ⟨e, ht⟩ => by
        subst e
        have hb : k < b.length := by omega
        have hs : impl_SameOid_l0 a b (k : Int) = cond (a[k] != b[k]) (some (.inr (.inr false))) (some (.inl ((k + 1 : Nat) : Int))) := by
          unfold impl_SameOid_l0
          rw [dlt (by omega), cond_true, at_nat hk, Option.bind_some, at_nat hb, Option.bind_some, w64_nat (by omega)]
        by_cases hne : a[k] = b[k]
        · refine .inl ⟨_, by rw [hs, show (a[k] != b[k]) = false by simp [hne]]; rfl, rfl, ?_⟩
          rw [List.take_add_one, List.take_add_one, List.getElem?_eq_getElem hk, List.getElem?_eq_getElem hb, ht, hne]
        · refine .inr ⟨_, by rw [hs, show (a[k] != b[k]) = true from bne_iff_ne.2 hne]; rfl, ?_⟩
          have : (a == b) = false := by
            apply beq_eq_false_iff_ne.2
            intro hab
            subst hab
            exact hne rfl
          rw [this]; rfl)
      (fun i ⟨e, ht⟩ => by
        subst e
        have hab : a = b := by
          rw [List.take_length, List.take_of_length_le (by omega)] at ht; exact ht
        exact ⟨.inl (), by show impl_SameOid_l0 a b _ = _; unfold impl_SameOid_l0; rw [dnlt (by omega), cond_false], by rw [show (a == b) = true from beq_iff_eq.2 hab]; rfl⟩) (x := 0) ⟨rfl, by simp⟩
    rw [h1, Option.bind_some]
    cases (a == b) <;> rfl
  · have e : ((a.length : Int) != (b.length : Int)) = true := by simp; omega
    have hne : (a == b) = false := beq_eq_false_iff_ne.2 fun h => hl (by rw [h])
    rw [e, cond_true, hne]
theorem sameV1 {v : Val} (h : v.2.2.2.length < 9223372036854775807) : impl_SameVal v v = some true := by
  unfold impl_SameVal
  rw [sameO h]
  simp
/-- A name's bounds. -/
structure Nm (o : List Int) : Prop where
  n1 : 1 ≤ o.length
  n10 : o.length ≤ 10
  e : ∀ x ∈ o, pIn x 0 100000 = true
theorem Nm.ok {o : List Int} (h : Nm o) : impl_OidOk o = some true := by
  have h10 := h.n10
  have h1 := h.n1
  unfold impl_OidOk
  obtain ⟨v, e, rfl⟩ := loop_inv (step := fun z => impl_OidOk_l0 o z) (fun k i => i = (k : Int)) o.length (fun v => v = .inl ())
    (fun k i hk e => by
      subst e
      refine .inl ⟨((k + 1 : Nat) : Int), ?_, rfl⟩
      show impl_OidOk_l0 o (k : Int) = _
      unfold impl_OidOk_l0
      rw [dlt (by omega), cond_true, at_nat hk, Option.bind_some, inT, Option.bind_some, h.e _ (List.getElem_mem hk), w64_nat (by omega)]; rfl)
    (fun i e => by
      subst e
      exact ⟨.inl (), by show impl_OidOk_l0 o _ = _; unfold impl_OidOk_l0; rw [dnlt (by omega), cond_false], rfl⟩) (x := 0) rfl
  rw [e, Option.bind_some]
  show ((impl_in (o.length : Int) 1 10).bind fun t => some t) = _
  rw [inT, Option.bind_some]
  unfold pIn
  rw [decide_eq_true (by omega), decide_eq_true (by omega)]; rfl
/-- A thing's value: a small number, or a short word. -/
inductive Vl : Val → Prop
  | num {n : Int} (h : pIn n (-2147483648) 2147483647 = true) : Vl (2, n, [], [])
  | word {s : List UInt8} (h : s.length ≤ 20) : Vl (4, 0, s, [])
theorem Vl.ok {v : Val} (h : Vl v) : impl_ValOk v = some true := by
  cases h with
  | num h =>
    unfold impl_ValOk impl_isInt impl_SameVal
    simp only [inT, h, Option.bind_some, sameO (show ([] : List Int).length < 9223372036854775807 by decide)]
    simp
  | word h =>
    rename_i s
    have hd : decide ((s.length : Int) ≤ 20) = true := decide_eq_true (by omega)
    unfold impl_ValOk impl_SameVal
    simp only [hd, Option.bind_some, sameO (show ([] : List Int).length < 9223372036854775807 by decide)]
    simp
theorem Vl.k {v : Val} (h : Vl v) : (v.1 == 128) = false := by cases h <;> rfl
theorem Vl.o {v : Val} (h : Vl v) : v.2.2.2 = [] := by cases h <;> rfl
theorem in32 {n : Int} (h1 : 0 ≤ n) (h2 : n ≤ 2147483647) : pIn n (-2147483648) 2147483647 = true := by unfold pIn; rw [decide_eq_true (by omega), decide_eq_true (by omega)]; rfl
theorem inP {n a c : Int} (h1 : a ≤ n) (h2 : n ≤ c) : pIn n a c = true := by unfold pIn; rw [decide_eq_true (by omega), decide_eq_true (by omega)]; rfl
theorem inE {n a c : Int} (h : pIn n a c = true) : a ≤ n ∧ n ≤ c := by
  unfold pIn at h
  simp only [Bool.and_eq_true, decide_eq_true_eq] at h
  exact h
theorem rowAtE {v : Vtab} (hn : v.1.length < 9223372036854775807) {id r : Int} (h : impl_RowAt v id = some r) (h0 : ¬ r < 0) : ∃ x ∈ v.1, x.1 = id := by
  unfold impl_RowAt at h
  obtain ⟨b, h1, h2⟩ := loop_inv (β := Unit ⊕ Int) (step := fun z => impl_RowAt_l0 v id z) (fun k i => i = (k : Int)) v.1.length (fun b => ∀ r, b = .inr r → ∃ x ∈ v.1, x.1 = id)
    (fun k i hk h => by
      subst h
      unfold impl_RowAt_l0
      rw [dlt (by omega), cond_true, at_nat hk, Option.bind_some]
      cases hb : (v.1[k].1 == id) with
      | true => exact .inr ⟨_, rfl, fun r hr => ⟨_, List.getElem_mem hk, eq_of_beq hb⟩⟩
      | false => exact .inl ⟨_, rfl, w64_nat (by omega)⟩)
    (fun i h => by
      subst h
      unfold impl_RowAt_l0
      rw [dnlt (by omega)]
      exact ⟨_, rfl, fun r hr => by cases hr⟩) (x := 0) rfl
  rw [h1, Option.bind_some] at h
  cases b with
  | inl _ => cases h; exact absurd (by decide) h0
  | inr r' => exact h2 r' rfl
theorem role_in {id : Int} {l : List Pt} {p v : Int} (h : impl_RoleOf id l p = some v) : 1 ≤ v ∧ v ≤ 4 := by
  unfold impl_RoleOf at h
  rw [inT, Option.bind_some] at h
  have key : ∀ (o : Option Bool) (f : Bool → Option Int), (∀ t x, f t = some x → 1 ≤ x ∧ x ≤ 4) → o.bind f = some v → 1 ≤ v ∧ v ≤ 4 := by
    intro o f hf h
    cases o with
    | none => cases h
    | some t => exact hf t v h
  refine key _ _ (fun t x hx => ?_) h
  cases t with
  | true => cases hx; decide
  | false =>
    rw [cond_false] at hx
    cases hbv : impl_BestVec id l with
    | none => rw [hbv] at hx; cases hx
    | some w =>
      rw [hbv, Option.bind_some] at hx
      cases hw : w.2 == p with
      | true => rw [hw] at hx; cases hx; decide
      | false =>
        rw [hw, cond_false] at hx
        cases ha : at? l p with
        | none => rw [ha] at hx; cases hx
        | some y =>
          rw [ha, Option.bind_some] at hx
          revert hx
          generalize (cond (!y.2.2.1) _ _ : Option Bool) = o
          intro hx
          cases o with
          | none => cases hx
          | some t => cases t <;> (cases hx; decide)
theorem rows_in {b : Bridge} (h : BOk b) {r : Vrow} (hr : r ∈ b.2.2.2.2.1) : (1 ≤ r.1 ∧ r.1 ≤ 99) ∧ (0 ≤ r.2.1 ∧ r.2.1 ≤ 63) ∧ (0 ≤ r.2.2 ∧ r.2.2 ≤ 63) := by
  obtain ⟨k, hk, rfl⟩ := List.getElem_of_mem hr
  have hv := h.v
  unfold pVtab at hv
  simp only [Bool.and_eq_true, Bool.not_eq_true', Bool.or_eq_false_iff, Bool.not_eq_false'] at hv
  have hx := List.any_eq_false.1 hv.2.1 k (List.mem_range.2 hk)
  unfold bRow at hx
  simp only [List.getElem?_eq_getElem hk, Bool.or_eq_true, Bool.not_eq_true', not_or, Bool.not_eq_false] at hx
  obtain ⟨x1, _, x3, x4⟩ := hx
  have ht := topLe (i := (b.2.2.1.length : Int)) hv.1.1
  have y1 := inE x1
  have y3 := inE x3
  have x4 : (bclr .i64 b.2.2.2.2.1[k].2.2 b.2.2.2.2.1[k].2.1 != 0) = false := by simpa using x4
  refine ⟨y1, by omega, ?_⟩
  have hI := h.w.r _ (List.getElem_mem hk)
  have hband := inE (bits_in hI.1 hI.2 x3 ht.2 (by rw [bits_same hI.1 hI.2]; exact x4))
  omega
theorem pvid_in {b : Bridge} (h : BOk b) {x : Int} (hx : x ∈ b.2.2.2.2.2.1) : 1 ≤ x ∧ x ≤ 99 := by
  obtain ⟨k, hk, rfl⟩ := List.getElem_of_mem hx
  have hv := h.v
  have hn : b.2.2.2.2.1.length < 9223372036854775807 := h.w.v
  unfold pVtab at hv
  simp only [Bool.and_eq_true, Bool.not_eq_true'] at hv
  have hq := List.any_eq_false.1 hv.2.2 k (List.mem_range.2 hk)
  unfold bPvid at hq
  simp only [List.getElem?_eq_getElem hk] at hq
  obtain ⟨r, hr⟩ := rowAtT (v := (b.2.2.2.2.1, b.2.2.2.2.2.1)) hn b.2.2.2.2.2.1[k]
  rw [hr] at hq
  simp only [decide_eq_true_eq] at hq
  obtain ⟨y, hy, e⟩ := rowAtE (v := (b.2.2.2.2.1, b.2.2.2.2.2.1)) hn hr hq
  have := (rows_in h (r := y) hy).1
  rw [e] at this
  exact this
theorem portV_in {b : Bridge} (h : BOk b) (c : Int) {k : Nat} (hk : k < b.2.2.1.length) : 0 ≤ portV b c (k : Int) ∧ portV b c (k : Int) ≤ 1000 := by
  have v3 : b.2.2.2.2.2.1.length = b.2.2.1.length := h.vt.len.2.2.1
  have hkq : k < b.2.2.2.2.2.1.length := by omega
  obtain ⟨r, hr⟩ := roleT b.1 h.w.p (k : Int)
  have hr2 := role_in hr
  have hp := h.p _ (List.getElem_mem hk)
  unfold pPt at hp
  simp only [Bool.and_eq_true] at hp
  have hc := inE hp.1
  have hq := pvid_in h (List.getElem_mem hkq)
  unfold portV impl_portThing impl_bit
  rw [at_nat hk, at_nat hkq, hr]
  simp only [Option.bind_some]
  cases (c == 1) with
  | true =>
    cases b.2.2.1[k].1 with
    | true => show (0 : Int) ≤ 1 ∧ (1 : Int) ≤ 1000; decide
    | false => show (0 : Int) ≤ 0 ∧ (0 : Int) ≤ 1000; decide
  | false =>
    cases (c == 2) with
    | true => show 0 ≤ b.2.2.1[k].2.1 ∧ b.2.2.1[k].2.1 ≤ 1000; omega
    | false =>
      cases (c == 3) with
      | true => show 0 ≤ r ∧ r ≤ 1000; omega
      | false => show 0 ≤ b.2.2.2.2.2.1[k] ∧ b.2.2.2.2.2.1[k] ≤ 1000; omega
theorem fdb_in {b : Bridge} (h : BOk b) {e : Fent} (he : e ∈ b.2.2.2.1) : (1 ≤ e.1 ∧ e.1 ≤ 99) ∧ (1 ≤ e.2.1 ∧ e.2.1 ≤ 9999) ∧ (0 ≤ e.2.2.1 ∧ e.2.2.1 ≤ 7) := by
  obtain ⟨k, hk, rfl⟩ := List.getElem_of_mem he
  have hv := h.f
  unfold pFdb at hv
  simp only [Bool.and_eq_true, Bool.not_eq_true'] at hv
  have hx := List.any_eq_false.1 hv.1 k (List.mem_range.2 hk)
  unfold bFent at hx
  simp only [List.getElem?_eq_getElem hk, Bool.or_eq_true, Bool.not_eq_true', not_or, Bool.not_eq_false] at hx
  have hf := hx.1
  unfold pFent at hf
  simp only [Bool.and_eq_true] at hf
  exact ⟨inE hf.1, inE hf.2.1, inE hf.2.2.1⟩
theorem counts_in {b : Bridge} (h : BOk b) : (0 ≤ b.2.2.2.2.2.2.1 ∧ b.2.2.2.2.2.2.1 ≤ 1000000) ∧ (0 ≤ b.2.2.2.2.2.2.2.1 ∧ b.2.2.2.2.2.2.2.1 ≤ 1000000) ∧ (0 ≤ b.2.2.2.2.2.2.2.2.1 ∧ b.2.2.2.2.2.2.2.2.1 ≤ 1000000) ∧ (0 ≤ b.2.2.2.2.2.2.2.2.2.1 ∧ b.2.2.2.2.2.2.2.2.2.1 ≤ 1000000) ∧ (0 ≤ b.2.2.2.2.2.2.2.2.2.2 ∧ b.2.2.2.2.2.2.2.2.2.2 ≤ 1000000) := by
  have hc := h.c
  unfold pCounts at hc
  simp only [Bool.and_eq_true] at hc
  exact ⟨inE hc.1, inE hc.2.1, inE hc.2.2.1, inE hc.2.2.2.1, inE hc.2.2.2.2⟩
theorem nm5 {a b : Int} (ha : 0 ≤ a ∧ a ≤ 100000) (hb : 0 ≤ b ∧ b ≤ 100000) : Nm [1, 3, 1, a, b] := ⟨by simp, by simp, fun x hx => by
  simp only [List.mem_cons, List.not_mem_nil, or_false] at hx
  rcases hx with rfl | rfl | rfl | rfl | rfl
  · decide
  · decide
  · decide
  · exact inP ha.1 ha.2
  · exact inP hb.1 hb.2⟩
theorem nm6 {a b c : Int} (ha : 0 ≤ a ∧ a ≤ 100000) (hb : 0 ≤ b ∧ b ≤ 100000) (hc : 0 ≤ c ∧ c ≤ 100000) : Nm [1, 3, 1, a, b, c] := ⟨by simp, by simp, fun x hx => by
  simp only [List.mem_cons, List.not_mem_nil, or_false] at hx
  rcases hx with rfl | rfl | rfl | rfl | rfl | rfl
  · decide
  · decide
  · decide
  · exact inP ha.1 ha.2
  · exact inP hb.1 hb.2
  · exact inP hc.1 hc.2⟩
theorem nm7 {a b c d : Int} (ha : 0 ≤ a ∧ a ≤ 100000) (hb : 0 ≤ b ∧ b ≤ 100000) (hc : 0 ≤ c ∧ c ≤ 100000) (hd : 0 ≤ d ∧ d ≤ 100000) : Nm [1, 3, 1, a, b, c, d] := ⟨by simp, by simp, fun x hx => by
  simp only [List.mem_cons, List.not_mem_nil, or_false] at hx
  rcases hx with rfl | rfl | rfl | rfl | rfl | rfl | rfl
  · decide
  · decide
  · decide
  · exact inP ha.1 ha.2
  · exact inP hb.1 hb.2
  · exact inP hc.1 hc.2
  · exact inP hd.1 hd.2⟩
/-- Each thing has a right name and a right value. -/
theorem mib_each {b : Bridge} (h : BOk b) : ∀ x ∈ mib b, Nm x.1 ∧ Vl x.2 := by
  intro x hx
  obtain ⟨t1, t2, t3, t4, _⟩ := counts_in h
  have hn6 := h.n6
  unfold mib at hx
  simp only [List.mem_append] at hx
  rcases hx with ((hx | hx) | hx) | hx
  · unfold mib5 at hx
    simp only [List.mem_cons, List.not_mem_nil, or_false] at hx
    have hname := h.name
    rcases hx with rfl | rfl | rfl | rfl | rfl
    · exact ⟨nm5 (by decide) (by decide), .word (by omega)⟩
    · exact ⟨nm5 (by decide) (by decide), .num (in32 t1.1 (by omega))⟩
    · exact ⟨nm5 (by decide) (by decide), .num (in32 t2.1 (by omega))⟩
    · exact ⟨nm5 (by decide) (by decide), .num (in32 t3.1 (by omega))⟩
    · exact ⟨nm5 (by decide) (by decide), .num (in32 t4.1 (by omega))⟩
  · obtain ⟨c, hc, hx⟩ := List.mem_flatMap.1 hx
    have hc := List.mem_range.1 hc
    unfold portG at hx
    obtain ⟨k, hk, rfl⟩ := List.mem_map.1 hx
    have hk := List.mem_range.1 hk
    have hp := portV_in h ((c + 1 : Nat) : Int) hk
    exact ⟨nm6 (by decide) (by omega) (by omega), .num (in32 hp.1 (by omega))⟩
  · obtain ⟨c, hc, hx⟩ := List.mem_flatMap.1 hx
    have hc := List.mem_range.1 hc
    unfold rowG at hx
    obtain ⟨r, hr, rfl⟩ := List.mem_map.1 hx
    obtain ⟨r1, r2, r3⟩ := rows_in h hr
    refine ⟨nm6 (by decide) (by omega) (by omega), .num ?_⟩
    unfold rowVal
    split
    · decide
    · exact in32 r2.1 (by omega)
    · exact in32 r3.1 (by omega)
  · unfold fdbG at hx
    obtain ⟨e, he, rfl⟩ := List.mem_map.1 hx
    obtain ⟨e1, e2, e3⟩ := fdb_in h he
    refine ⟨nm7 (by decide) (by decide) (by omega) (by omega), .num ?_⟩
    rw [w64_id (by omega) (by omega)]
    exact in32 (by omega) (by omega)
theorem mib_len {b : Bridge} (h : BOk b) : (mib b).length = 5 + 4 * b.2.2.1.length + 3 * b.2.2.2.2.1.length + b.2.2.2.1.length := by
  have hp : ∀ c, (portG b c).length = b.2.2.1.length := fun c => by unfold portG; rw [List.length_map, List.length_range]
  have hr : ∀ c, (rowG b c).length = b.2.2.2.2.1.length := fun c => by unfold rowG; rw [List.length_map]
  have hf : (fdbG b).length = b.2.2.2.1.length := by unfold fdbG; rw [List.length_map]
  have k5 : (mib5 b).length = 5 := rfl
  unfold mib
  rw [flat4, flat3]
  simp only [List.length_append, List.length_nil, hp, hr, hf, k5]
  omega
theorem mib_le {b : Bridge} (h : BOk b) : (mib b).length ≤ 59 := by
  have h1 := mib_len h
  have h2 := h.n6
  have h3 : b.2.2.2.2.1.length ≤ 6 := h.vt.len.2.2.2
  have h4 := h.f12
  omega
/-- Things of one name are one. -/
theorem mib_one {b : Bridge} (h : BOk b) {x y : Bind} (hx : x ∈ mib b) (hy : y ∈ mib b) (e : x.1 = y.1) : x = y := by
  have hp := List.pairwise_iff_getElem.1 (mib_pair h)
  obtain ⟨i, hi, rfl⟩ := List.getElem_of_mem hx
  obtain ⟨j, hj, rfl⟩ := List.getElem_of_mem hy
  by_cases h1 : i < j
  · have := hp i j hi hj h1
    rw [e] at this
    exact absurd this (List.lt_irrefl _)
  · by_cases h2 : j < i
    · have := hp j i hj hi h2
      rw [e] at this
      exact absurd this (List.lt_irrefl _)
    · have : i = j := by omega
      subst this; rfl
/-! ### what is told of a name -/
theorem getX {b : Bridge} (h : BOk b) {o : List Int} (ho : o.length < 9223372036854775807) : ∃ v, impl_MibGet b o = some v ∧ ((∃ x ∈ mib b, x.1 = o ∧ v = x.2) ∨ ((∀ x ∈ mib b, x.1 ≠ o) ∧ v = (128, 0, [], []))) := by
  have hle := mib_le h
  obtain ⟨v, h1, h2⟩ := loop_inv (step := fun z : Int × Int × Int × List UInt8 × List Int => impl_MibGet_l0 o (mib b) z.1 z.2.1 z.2.2.1 z.2.2.2.1 z.2.2.2.2) (fun k z => z = ((k : Int), 0, 0, [], []) ∧ ∀ x ∈ (mib b).take k, x.1 ≠ o) (mib b).length (fun v => (∃ x ∈ mib b, x.1 = o ∧ v = .inr x.2) ∨ ((∀ x ∈ mib b, x.1 ≠ o) ∧ ∃ u, v = .inl u))
    (fun k z hk ⟨e, hx⟩ => by
      subst e
      have hs : impl_MibGet_l0 o (mib b) (k : Int) 0 0 [] [] = cond ((mib b)[k].1 == o) (some (.inr (.inr (mib b)[k].2))) (some (.inl (((k + 1 : Nat) : Int), 0, 0, [], []))) := by
        unfold impl_MibGet_l0
        rw [dlt (by omega), cond_true, at_nat hk, Option.bind_some, sameO ho, Option.bind_some, w64_nat (by omega)]
      show (∃ y, impl_MibGet_l0 o (mib b) (k : Int) 0 0 [] [] = _ ∧ _) ∨ (∃ v, impl_MibGet_l0 o (mib b) (k : Int) 0 0 [] [] = _ ∧ _)
      rw [hs]
      cases hb : ((mib b)[k].1 == o) with
      | true => exact .inr ⟨_, rfl, .inl ⟨_, List.getElem_mem hk, eq_of_beq hb, rfl⟩⟩
      | false =>
        refine .inl ⟨_, rfl, rfl, fun x hx' => ?_⟩
        rw [List.take_add_one, List.getElem?_eq_getElem hk, List.mem_append] at hx'
        rcases hx' with hx' | hx'
        · exact hx x hx'
        · simp at hx'
          subst hx'
          exact beq_eq_false_iff_ne.1 hb)
    (fun z ⟨e, hx⟩ => by
      subst e
      rw [List.take_length] at hx
      refine ⟨.inl (0, 0, [], []), ?_, .inr ⟨hx, _, rfl⟩⟩
      show impl_MibGet_l0 o (mib b) _ 0 0 [] [] = _
      unfold impl_MibGet_l0
      rw [dnlt (by omega), cond_false]) (x := (0, 0, 0, [], [])) ⟨rfl, by simp⟩
  unfold impl_MibGet
  rw [mibX h, Option.bind_some, h1, Option.bind_some]
  rcases h2 with ⟨x, hx, e, rfl⟩ | ⟨hx, u, rfl⟩
  · exact ⟨_, rfl, .inl ⟨x, hx, e, rfl⟩⟩
  · exact ⟨_, rfl, .inr ⟨hx, rfl⟩⟩
end Go.V.W
