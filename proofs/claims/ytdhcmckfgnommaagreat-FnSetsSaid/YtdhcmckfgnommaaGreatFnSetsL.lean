/- The law FnSets: part of the proof that for every input it returns true. No condition. -/
import Derived.Test.YtdhcmckfgnommaaGreatFnSetsB
namespace Go.V.W
set_option linter.unusedVariables false
set_option linter.unusedSimpArgs false
abbrev nameO : List Int := [1, 3, 1, 1, 1]
/-! ### what one change makes -/
/-- A bridge's name, ports, rows and networks of ports. -/
def Has (b : Bridge) (nm : List UInt8) (P : List Pt) (R : List Vrow) (Q : List Int) : Prop := b.2.1 = nm ∧ b.2.2.1 = P ∧ b.2.2.2.2.1 = R ∧ b.2.2.2.2.2.1 = Q
inductive Did (b : Bridge) : Bind → Bridge → Prop
 | name {n : Int} {s : List UInt8} {o : List Int} {b' : Bridge} : Has b' s b.2.2.1 b.2.2.2.2.1 b.2.2.2.2.2.1 → Did b (nameO, 4, n, s, o) b'
 | cost {k : Nat} (hk : k < b.2.2.1.length) {n : Int} {s : List UInt8} {o : List Int} {q : Pt} {b' : Bridge} : q.2.1 = n → Has b' b.2.1 (b.2.2.1.set k q) b.2.2.2.2.1 b.2.2.2.2.2.1 → Did b ([1, 3, 1, 2, 2, ((k + 1 : Nat) : Int)], 2, n, s, o) b'
 | pvid {k : Nat} (hk : k < b.2.2.2.2.2.1.length) {n : Int} {s : List UInt8} {o : List Int} {b' : Bridge} : Has b' b.2.1 b.2.2.1 b.2.2.2.2.1 (b.2.2.2.2.2.1.set k n) → Did b ([1, 3, 1, 2, 4, ((k + 1 : Nat) : Int)], 2, n, s, o) b'
 | row {id : Int} {s : List UInt8} {o : List Int} {b' : Bridge} : (∀ r ∈ b.2.2.2.2.1, r.1 ≠ id) → Has b' b.2.1 b.2.2.1 (insG (id, 0, 0) false b.2.2.2.2.1) b.2.2.2.2.2.1 → Did b ([1, 3, 1, 3, 1, id], 2, 4, s, o) b'
 | gone {k : Nat} (hk : k < b.2.2.2.2.1.length) {s : List UInt8} {o : List Int} {b' : Bridge} : Has b' b.2.1 b.2.2.1 (b.2.2.2.2.1.eraseIdx k) b.2.2.2.2.2.1 → Did b ([1, 3, 1, 3, 1, b.2.2.2.2.1[k].1], 2, 6, s, o) b'
 | mem {k : Nat} (hk : k < b.2.2.2.2.1.length) {n : Int} {s : List UInt8} {o : List Int} {b' : Bridge} : Has b' b.2.1 b.2.2.1 (b.2.2.2.2.1.set k (b.2.2.2.2.1[k].1, n, b.2.2.2.2.1[k].2.2)) b.2.2.2.2.2.1 → Did b ([1, 3, 1, 3, 2, b.2.2.2.2.1[k].1], 2, n, s, o) b'
 | bare {k : Nat} (hk : k < b.2.2.2.2.1.length) {n : Int} {s : List UInt8} {o : List Int} {b' : Bridge} : Has b' b.2.1 b.2.2.1 (b.2.2.2.2.1.set k (b.2.2.2.2.1[k].1, b.2.2.2.2.1[k].2.1, n)) b.2.2.2.2.2.1 → Did b ([1, 3, 1, 3, 3, b.2.2.2.2.1[k].1], 2, n, s, o) b'
theorem didRow {b b' : Bridge} (h : SOk b) {c id n : Int} {s : List UInt8} {o : List Int} (hc : (c = 1 ∧ pIn id 1 99 = true) ∨ ((c = 2 ∨ c = 3) ∧ rowIx (bRows b) id ≥ 0)) (e : impl_Bridge_setRow b c id n = some (b', 0)) : Did b ([1, 3, 1, 3, c, id], 2, n, s, o) b' := by
 have hv := h.v
 have hr : ∀ (id : Int), impl_RowAt (b.2.2.2.2.1, b.2.2.2.2.2.1) id = some (rowIx (bRows b) id) := fun id => rowAtX (v := (b.2.2.2.2.1, b.2.2.2.2.2.1)) (by show b.2.2.2.2.1.length < _; omega) id
 have hq : b.2.2.2.2.2.1.length ≤ 6 := by have := h.q; have := h.n6; omega
 have hw : ∀ (r : Vrow), impl_withRow (b.2.2.2.2.1, b.2.2.2.2.2.1) r = some (insG r false b.2.2.2.2.1, b.2.2.2.2.2.1) := fun r => withRowX (v := (b.2.2.2.2.1, b.2.2.2.2.2.1)) r (by show b.2.2.2.2.1.length ≤ _; omega) (by show b.2.2.2.2.2.1.length ≤ _; omega) h.s
 unfold impl_Bridge_setRow at e
 rw [hr, Option.bind_some] at e
 by_cases h1 : c = 1
 · subst h1
   simp only [show ((1 : Int) == 1) = true from rfl, cond_true, Option.bind_some, hw] at e
   by_cases hp : rowIx (bRows b) id ≥ 0
   · have hp' : ¬ rowIx (bRows b) id < 0 := by omega
     have e4 : cond (n == 4) (some false) (some false) = some false := by cases (n == 4) <;> rfl
     simp only [decide_eq_true hp, decide_eq_false hp', e4, Option.bind_some, cond_false] at e
     obtain ⟨k, hk, e1, e2⟩ := rowIx_some hp
     cases hn : (n == 6) with
     | false =>
      rw [hn] at e
      simp only [cond_false, Option.bind_some, Option.some.injEq, Prod.mk.injEq] at e
      exact absurd e.2 (by decide)
     | true =>
      have hn6 : n = 6 := by simpa using hn
      rw [hn] at e
      have hk' : k < b.2.2.2.2.1.length := hk
      have hwo : impl_withoutRow (b.2.2.2.2.1, b.2.2.2.2.2.1) id = some (b.2.2.2.2.1.eraseIdx k, b.2.2.2.2.2.1) := withoutX (v := (b.2.2.2.2.1, b.2.2.2.2.2.1)) id (by show b.2.2.2.2.1.length ≤ _; omega) (by show b.2.2.2.2.2.1.length ≤ _; omega) hk' e1
      simp only [cond_true, Option.bind_some, hwo, Option.some.injEq, Prod.mk.injEq] at e
      subst hn6
      have e2' : id = b.2.2.2.2.1[k].1 := e2.symm
      subst e2'
      refine .gone hk' ?_
      rw [← e.1]
      exact ⟨rfl, rfl, rfl, rfl⟩
   · have hp' : rowIx (bRows b) id < 0 := by omega
     have e6 : cond (n == 6) (some false) (some false) = some false := by cases (n == 6) <;> rfl
     simp only [decide_eq_false hp, decide_eq_true hp', e6] at e
     cases hn : (n == 4) with
     | false =>
      rw [hn] at e
      simp only [cond_false, Option.bind_some, Option.some.injEq, Prod.mk.injEq] at e
      exact absurd e.2 (by decide)
     | true =>
      have hn4 : n = 4 := by simpa using hn
      rw [hn] at e
      simp only [cond_true, Option.bind_some] at e
      by_cases h6 : (b.2.2.2.2.1.length : Int) < 6
      · simp only [decide_eq_true h6, cond_true, Option.some.injEq, Prod.mk.injEq] at e
        subst hn4
        refine .row (rowIx_none hp') ?_
        rw [← e.1]
        exact ⟨rfl, rfl, rfl, rfl⟩
      · simp only [decide_eq_false h6, cond_false, Option.bind_some, Option.some.injEq, Prod.mk.injEq] at e
        exact absurd e.2 (by decide)
 · have h23 : c = 2 ∨ c = 3 := by rcases hc with hc | hc; exact absurd hc.1 h1; exact hc.1
   have hp : rowIx (bRows b) id ≥ 0 := by rcases hc with hc | hc; exact absurd hc.1 h1; exact hc.2
   obtain ⟨k, hk, e1, e2⟩ := rowIx_some hp
   have hk' : k < b.2.2.2.2.1.length := hk
   obtain ⟨t, q1, q2⟩ := shlS (ports6 h)
   rw [show (c == 1) = false from beq_eq_false_iff_ne.2 h1] at e
   simp only [cond_false, allPortsT (ports6 h), q1, Option.bind_some, inT] at e
   cases hn : pIn n 0 (pTop (b.2.2.1.length : Int)) with
   | false =>
    rw [hn] at e
    simp only [Bool.not_false, cond_true, Option.some.injEq, Prod.mk.injEq] at e
    exact absurd e.2 (by decide)
   | true =>
    rw [hn] at e
    have hx : ix b.2.2.2.2.1.length (k : Int) = some k := ix_nat hk'
    simp only [Bool.not_true, cond_false, Option.bind_some, e1, hx, List.getElem?_eq_getElem hk'] at e
    have e2' : id = b.2.2.2.2.1[k].1 := e2.symm
    subst e2'
    rcases h23 with rfl | rfl
    · simp only [show ((2 : Int) == 2) = true from rfl, cond_true, Option.some.injEq, Prod.mk.injEq] at e
      refine .mem hk' ?_
      rw [← e.1]
      exact ⟨rfl, rfl, rfl, rfl⟩
    · simp only [show ((3 : Int) == 2) = false from rfl, cond_false, Option.some.injEq, Prod.mk.injEq] at e
      refine .bare hk' ?_
      rw [← e.1]
      exact ⟨rfl, rfl, rfl, rfl⟩
theorem no0 {b b' : Bridge} {n : Int} (hn : n ≠ 0) (e : some (b, n) = some (b', 0)) : False := hn (by injection e with e; injection e)
theorem did {b b' : Bridge} (h : SOk b) {x : Bind} (hx : x.1.length ≤ M) (e : impl_Bridge_set b x = some (b', 0)) : Did b x b' := by
 unfold impl_Bridge_set at e
 rw [canB h.le hx, Option.bind_some, can_may h] at e
 cases hm : mayP b x.1 with
 | false =>
  rw [hm, cond_false, readB h.le hx, Option.bind_some] at e
  exfalso
  cases hq : readP b x.1 with
  | true => rw [hq, cond_true] at e; exact no0 (by decide) e
  | false => rw [hq, cond_false] at e; exact no0 (by decide) e
 | true =>
  obtain ⟨o, kd, n, w, vo⟩ := x
  rw [hm, cond_true] at e
  simp only at e
  unfold impl_Bridge_setThing at e
  rcases may_shape hm with ho | ⟨c, p, ho, hc, hp⟩ | ⟨c, p, ho, hc⟩
  · simp only at ho
    subst ho
    rw [show at? [1, 3, 1, 1, 1] 3 = some (1 : Int) from rfl] at e
    simp only [Option.bind_some, show ((1 : Int) == 1) = true from rfl, cond_true, Bool.not_true, cond_false] at e
    cases hk : (kd != 4) with
    | true =>
     rw [hk] at e
     simp only [cond_true, Option.bind_some, Option.some.injEq, Prod.mk.injEq] at e
     exact absurd e.2 (by decide)
    | false =>
     have hk4 : kd = 4 := by simpa using hk
     rw [hk] at e
     simp only [cond_false, Option.bind_some] at e
     by_cases hw : (w.length : Int) > 10
     · simp only [decide_eq_true hw, cond_true, Option.bind_some, Option.some.injEq, Prod.mk.injEq] at e
       exact absurd e.2 (by decide)
     · simp only [decide_eq_false hw, cond_false, Option.bind_some, Option.some.injEq, Prod.mk.injEq] at e
       subst hk4
       refine .name ?_
       rw [← e.1]
       exact ⟨rfl, rfl, rfl, rfl⟩
  · simp only at ho
    subst ho
    rw [show at? [1, 3, 1, 2, c, p] 3 = some (2 : Int) from rfl, show at? [1, 3, 1, 2, c, p] 4 = some c from rfl, show at? [1, 3, 1, 2, c, p] 5 = some p from rfl] at e
    simp only [Option.bind_some, show ((2 : Int) == 1) = false from rfl, show ((2 : Int) == 3) = false from rfl, cond_true, Bool.not_false, cond_false] at e
    cases hk : (kd != 2) with
    | true =>
     rw [hk] at e
     simp only [cond_true, Option.bind_some, Option.some.injEq, Prod.mk.injEq] at e
     exact absurd e.2 (by decide)
    | false =>
     have hk2 : kd = 2 := by simpa using hk
     subst hk2
     rw [hk] at e
     obtain ⟨k, hk, ek⟩ := portIx hp h.n6
     have hpk : p = ((k + 1 : Nat) : Int) := by
      obtain ⟨p1, p2⟩ := pIn_true hp
      have hn6 := h.n6
      have : nPorts b = (b.2.2.1.length : Int) := rfl
      rw [w64_id (by omega) (by omega)] at ek
      omega
     subst hpk
     have hx1 : ix b.2.2.1.length (k : Int) = some k := ix_nat hk
     have hk2 : k < b.2.2.2.2.2.1.length := by rw [h.q]; exact hk
     have hx2 : ix b.2.2.2.2.2.1.length (k : Int) = some k := ix_nat hk2
     simp only [cond_false, Option.bind_some, ek, inT, hx1, hx2, List.getElem?_eq_getElem hk, List.getElem?_eq_getElem hk2] at e
     rcases hc with rfl | rfl
     · simp only [show ((2 : Int) == 2) = true from rfl, cond_true] at e
       cases hn : pIn n 1 1000 with
       | false =>
        rw [hn] at e
        simp only [Bool.not_false, cond_true, Option.bind_some, Option.some.injEq, Prod.mk.injEq] at e
        exact absurd e.2 (by decide)
       | true =>
        rw [hn] at e
        simp only [Bool.not_true, cond_false, Option.bind_some, Option.some.injEq, Prod.mk.injEq] at e
        refine .cost hk (q := (b.2.2.1[k].1, n, b.2.2.1[k].2.2.1, b.2.2.1[k].2.2.2.1, b.2.2.1[k].2.2.2.2.1, b.2.2.1[k].2.2.2.2.2.1, b.2.2.1[k].2.2.2.2.2.2.1, b.2.2.1[k].2.2.2.2.2.2.2)) rfl ?_
        rw [← e.1]
        exact ⟨rfl, rfl, rfl, rfl⟩
     · simp only [show ((4 : Int) == 2) = false from rfl, cond_false, Option.bind_some, Option.some.injEq, Prod.mk.injEq] at e
       refine .pvid hk2 ?_
       rw [← e.1]
       exact ⟨rfl, rfl, rfl, rfl⟩
  · simp only at ho
    subst ho
    rw [show at? [1, 3, 1, 3, c, p] 3 = some (3 : Int) from rfl, show at? [1, 3, 1, 3, c, p] 4 = some c from rfl, show at? [1, 3, 1, 3, c, p] 5 = some p from rfl] at e
    simp only [Option.bind_some, show ((3 : Int) == 1) = false from rfl, show ((3 : Int) == 3) = true from rfl, cond_true, Bool.not_false, cond_false] at e
    cases hk : (kd != 2) with
    | true =>
     rw [hk] at e
     simp only [cond_true, Option.bind_some, Option.some.injEq, Prod.mk.injEq] at e
     exact absurd e.2 (by decide)
    | false =>
     have hk2 : kd = 2 := by simpa using hk
     subst hk2
     rw [hk] at e
     simp only [cond_false, Option.bind_some] at e
     refine didRow h hc ?_
     cases hq : impl_Bridge_setRow b c p n with
     | none => rw [hq] at e; cases e
     | some r => rw [hq] at e; exact e
/-! ### what is told behind it -/
def Fact (b : Bridge) (x : Bind) : Prop :=
 x = (nameO, 4, 0, b.2.1, []) ∨
 (∃ k, ∃ hk : k < b.2.2.1.length, x = ([1, 3, 1, 2, 2, ((k + 1 : Nat) : Int)], 2, b.2.2.1[k].2.1, [], [])) ∨
 (∃ k, ∃ hk : k < b.2.2.2.2.2.1.length, x = ([1, 3, 1, 2, 4, ((k + 1 : Nat) : Int)], 2, b.2.2.2.2.2.1[k], [], [])) ∨
 (∃ r ∈ b.2.2.2.2.1, x = ([1, 3, 1, 3, 1, r.1], 2, 4, [], [])) ∨
 (∃ id, x = ([1, 3, 1, 3, 1, id], 2, 6, [], []) ∧ ∀ r ∈ b.2.2.2.2.1, r.1 ≠ id) ∨
 (∃ r ∈ b.2.2.2.2.1, x = ([1, 3, 1, 3, 2, r.1], 2, r.2.1, [], [])) ∨
 (∃ r ∈ b.2.2.2.2.1, x = ([1, 3, 1, 3, 3, r.1], 2, r.2.2, [], []))
theorem Fact.of {b b' : Bridge} {x : Bind} (h : Fact b x) (e1 : b'.2.1 = b.2.1) (e2 : b'.2.2.1 = b.2.2.1) (e3 : b'.2.2.2.2.1 = b.2.2.2.2.1) (e4 : b'.2.2.2.2.2.1 = b.2.2.2.2.2.1) : Fact b' x := by
 unfold Fact at h ⊢
 simp only [e1, e2, e3, e4]
 exact h
/-- Its row is made or struck by another. -/
def Struck (x : Bind) (o : List Int) : Prop := ∃ c id, o = [1, 3, 1, 3, c, id] ∧ c ≠ 1 ∧ x.1 = [1, 3, 1, 3, 1, id]
theorem mem_insG {r : Vrow} : ∀ {l : List Vrow} (x : Vrow), (∀ y ∈ l, y.1 ≠ r.1) → (x ∈ insG r false l ↔ x = r ∨ x ∈ l)
 | [], x, h => by simp [insG]
 | y :: t, x, h => by
  have hy : (y.1 != r.1) = true := by have := h y (List.mem_cons_self ..); simp [this]
  have ht : ∀ z ∈ t, z.1 ≠ r.1 := fun z hz => h z (List.mem_cons_of_mem _ hz)
  unfold insG
  by_cases hc : y.1 ≥ r.1
  · rw [if_pos hc, if_pos hy, insG_true ht]; simp
  · rw [if_neg hc, List.mem_cons, mem_insG x ht, List.mem_cons]
    constructor
    · rintro (h | h | h)
      · exact .inr (.inl h)
      · exact .inl h
      · exact .inr (.inr h)
    · rintro (h | h | h)
      · exact .inr (.inl h)
      · exact .inl h
      · exact .inr (.inr h)
theorem row_ne {l : List Vrow} (h : l.Pairwise fun r s => r.1 < s.1) {i k : Nat} (hi : i < l.length) (hk : k < l.length) (hne : i ≠ k) : l[i].1 ≠ l[k].1 := by
 have hp := List.pairwise_iff_getElem.1 h
 rcases Nat.lt_or_gt_of_ne hne with h1 | h1
 · have := hp i k hi hk h1; omega
 · have := hp k i hk hi h1; omega
theorem did_fact {b b' : Bridge} {x : Bind} (hs : b.2.2.2.2.1.Pairwise fun r s => r.1 < s.1) (h : Did b x b') (hv : VCl x.2) : Fact b' x := by
 cases h with
 | name e =>
  obtain ⟨e1, e2, e3, e4⟩ := e
  obtain ⟨v1, v2⟩ := hv.2 rfl
  simp only at v1 v2
  subst v1 v2
  exact .inl (by rw [e1])
 | cost hk hq e =>
  obtain ⟨e1, e2, e3, e4⟩ := e
  obtain ⟨v1, v2⟩ := hv.1 rfl
  simp only at v1 v2
  subst v1 v2
  rename_i k n q
  refine .inr (.inl ⟨k, by rw [e2, List.length_set]; exact hk, ?_⟩)
  simp only [e2, List.getElem_set_self, hq]
 | pvid hk e =>
  obtain ⟨e1, e2, e3, e4⟩ := e
  obtain ⟨v1, v2⟩ := hv.1 rfl
  simp only at v1 v2
  subst v1 v2
  rename_i k n
  refine .inr (.inr (.inl ⟨k, by rw [e4, List.length_set]; exact hk, ?_⟩))
  simp only [e4, List.getElem_set_self]
 | row hn e =>
  obtain ⟨e1, e2, e3, e4⟩ := e
  obtain ⟨v1, v2⟩ := hv.1 rfl
  simp only at v1 v2
  subst v1 v2
  rename_i id
  exact .inr (.inr (.inr (.inl ⟨(id, 0, 0), by rw [e3]; exact (mem_insG _ hn).2 (.inl rfl), rfl⟩)))
 | gone hk e =>
  obtain ⟨e1, e2, e3, e4⟩ := e
  obtain ⟨v1, v2⟩ := hv.1 rfl
  simp only at v1 v2
  subst v1 v2
  rename_i k
  refine .inr (.inr (.inr (.inr (.inl ⟨_, rfl, fun r hr => ?_⟩))))
  rw [e3] at hr
  obtain ⟨i, hi, hne, rfl⟩ := List.mem_eraseIdx_iff_getElem.1 hr
  exact row_ne hs hi hk hne
 | mem hk e =>
  obtain ⟨e1, e2, e3, e4⟩ := e
  obtain ⟨v1, v2⟩ := hv.1 rfl
  simp only at v1 v2
  subst v1 v2
  rename_i k n
  exact .inr (.inr (.inr (.inr (.inr (.inl ⟨(b.2.2.2.2.1[k].1, n, b.2.2.2.2.1[k].2.2), by rw [e3]; exact List.mem_set hk _, rfl⟩)))))
 | bare hk e =>
  obtain ⟨e1, e2, e3, e4⟩ := e
  obtain ⟨v1, v2⟩ := hv.1 rfl
  simp only at v1 v2
  subst v1 v2
  rename_i k n
  exact .inr (.inr (.inr (.inr (.inr (.inr ⟨(b.2.2.2.2.1[k].1, b.2.2.2.2.1[k].2.1, n), by rw [e3]; exact List.mem_set hk _, rfl⟩)))))
theorem set_ne {l : List Vrow} {k : Nat} (hk : k < l.length) {r q : Vrow} (hr : r ∈ l) (hne : r.1 ≠ l[k].1) : r ∈ l.set k q := by
 obtain ⟨i, hi, rfl⟩ := List.getElem_of_mem hr
 have : i ≠ k := fun e => hne (by subst e; rfl)
 have h : (l.set k q)[i]'(by rw [List.length_set]; exact hi) = l[i] := List.getElem_set_ne (Ne.symm this) _
 rw [← h]
 exact List.getElem_mem _
theorem set_id {l : List Vrow} {k : Nat} (hk : k < l.length) {q : Vrow} (hq : q.1 = l[k].1) {id : Int} : (∀ r ∈ l, r.1 ≠ id) → ∀ r ∈ l.set k q, r.1 ≠ id := fun h r hr => by
 rcases List.mem_or_eq_of_mem_set hr with hr | rfl
 · exact h r hr
 · rw [hq]; exact h _ (List.getElem_mem hk)
theorem set_has {l : List Vrow} {k : Nat} (hk : k < l.length) {r q : Vrow} (hr : r ∈ l) (hq : q.1 = l[k].1) : ∃ s ∈ l.set k q, s.1 = r.1 := by
 by_cases h : r.1 = l[k].1
 · exact ⟨q, List.mem_set hk _, by rw [hq, h]⟩
 · exact ⟨r, set_ne hk hr h, rfl⟩
theorem did_keep {b b' : Bridge} {x z : Bind} (hs : b.2.2.2.2.1.Pairwise fun r s => r.1 < s.1) (h : Did b x b') (hz : Fact b z) (hne : z.1 ≠ x.1) (hst : ¬ Struck x z.1) : Fact b' z := by
 cases h with
 | name e =>
  obtain ⟨e1, e2, e3, e4⟩ := e
  unfold Fact at hz ⊢
  simp only [e2, e3, e4]
  rcases hz with rfl | hz
  · exact absurd rfl hne
  · exact .inr hz
 | cost hk hq e =>
  obtain ⟨e1, e2, e3, e4⟩ := e
  rename_i k n s o q
  rcases hz with hz | ⟨j, hj, rfl⟩ | hz
  · exact .inl (by rw [hz, e1])
  · have hjk : j ≠ k := fun e => hne (by subst e; rfl)
    refine .inr (.inl ⟨j, by rw [e2, List.length_set]; exact hj, ?_⟩)
    simp only [e2, List.getElem_set_ne (Ne.symm hjk)]
  · refine .inr (.inr ?_)
    simp only [e3, e4]
    exact hz
 | pvid hk e =>
  obtain ⟨e1, e2, e3, e4⟩ := e
  rename_i k n s o
  rcases hz with hz | hz | ⟨j, hj, rfl⟩ | hz
  · exact .inl (by rw [hz, e1])
  · refine .inr (.inl ?_)
    simp only [e2]
    exact hz
  · have hjk : j ≠ k := fun e => hne (by subst e; rfl)
    refine .inr (.inr (.inl ⟨j, by rw [e4, List.length_set]; exact hj, ?_⟩))
    simp only [e4, List.getElem_set_ne (Ne.symm hjk)]
  · refine .inr (.inr (.inr ?_))
    simp only [e3]
    exact hz
 | row hn e =>
  obtain ⟨e1, e2, e3, e4⟩ := e
  rename_i id s o
  rcases hz with hz | hz | hz | ⟨r, hr, rfl⟩ | ⟨i, rfl, hi⟩ | ⟨r, hr, rfl⟩ | ⟨r, hr, rfl⟩
  · exact .inl (by rw [hz, e1])
  · refine .inr (.inl ?_); simp only [e2]; exact hz
  · refine .inr (.inr (.inl ?_)); simp only [e4]; exact hz
  · exact .inr (.inr (.inr (.inl ⟨r, by rw [e3]; exact (mem_insG _ hn).2 (.inr hr), rfl⟩)))
  · refine .inr (.inr (.inr (.inr (.inl ⟨i, rfl, fun r hr => ?_⟩))))
    rw [e3] at hr
    rcases (mem_insG _ hn).1 hr with rfl | hr
    · intro (h : id = i); exact hne (by subst h; rfl)
    · exact hi r hr
  · exact .inr (.inr (.inr (.inr (.inr (.inl ⟨r, by rw [e3]; exact (mem_insG _ hn).2 (.inr hr), rfl⟩)))))
  · exact .inr (.inr (.inr (.inr (.inr (.inr ⟨r, by rw [e3]; exact (mem_insG _ hn).2 (.inr hr), rfl⟩)))))
 | gone hk e =>
  obtain ⟨e1, e2, e3, e4⟩ := e
  rename_i k s o
  have keep : ∀ r ∈ b.2.2.2.2.1, r.1 ≠ b.2.2.2.2.1[k].1 → r ∈ b'.2.2.2.2.1 := fun r hr hne => by
   rw [e3]
   obtain ⟨i, hi, rfl⟩ := List.getElem_of_mem hr
   exact List.mem_eraseIdx_iff_getElem.2 ⟨i, hi, fun e => hne (by subst e; rfl), rfl⟩
  rcases hz with hz | hz | hz | ⟨r, hr, rfl⟩ | ⟨i, rfl, hi⟩ | ⟨r, hr, rfl⟩ | ⟨r, hr, rfl⟩
  · exact .inl (by rw [hz, e1])
  · refine .inr (.inl ?_); simp only [e2]; exact hz
  · refine .inr (.inr (.inl ?_)); simp only [e4]; exact hz
  · exact .inr (.inr (.inr (.inl ⟨r, keep r hr (fun h => hne (by show [1, 3, 1, 3, 1, r.1] = _; rw [h])), rfl⟩)))
  · exact .inr (.inr (.inr (.inr (.inl ⟨i, rfl, fun r hr => hi r (by rw [e3] at hr; exact List.mem_of_mem_eraseIdx hr)⟩))))
  · exact .inr (.inr (.inr (.inr (.inr (.inl ⟨r, keep r hr (fun h => hst ⟨2, r.1, rfl, by decide, by rw [h]⟩), rfl⟩)))))
  · exact .inr (.inr (.inr (.inr (.inr (.inr ⟨r, keep r hr (fun h => hst ⟨3, r.1, rfl, by decide, by rw [h]⟩), rfl⟩)))))
 | mem hk e =>
  obtain ⟨e1, e2, e3, e4⟩ := e
  rename_i k n s o
  rcases hz with hz | hz | hz | ⟨r, hr, rfl⟩ | ⟨i, rfl, hi⟩ | ⟨r, hr, rfl⟩ | ⟨r, hr, rfl⟩
  · exact .inl (by rw [hz, e1])
  · refine .inr (.inl ?_); simp only [e2]; exact hz
  · refine .inr (.inr (.inl ?_)); simp only [e4]; exact hz
  · obtain ⟨q, hq, eq⟩ := set_has hk (q := (b.2.2.2.2.1[k].1, n, b.2.2.2.2.1[k].2.2)) hr rfl
    exact .inr (.inr (.inr (.inl ⟨q, by rw [e3]; exact hq, by rw [eq]⟩)))
  · exact .inr (.inr (.inr (.inr (.inl ⟨i, rfl, by rw [e3]; exact set_id hk (q := (b.2.2.2.2.1[k].1, n, b.2.2.2.2.1[k].2.2)) rfl hi⟩))))
  · exact .inr (.inr (.inr (.inr (.inr (.inl ⟨r, by rw [e3]; exact set_ne hk hr (fun h => hne (by show [1, 3, 1, 3, 2, r.1] = _; rw [h])), rfl⟩)))))
  · obtain ⟨i, hi, rfl⟩ := List.getElem_of_mem hr
    by_cases hik : i = k
    · subst hik
      exact .inr (.inr (.inr (.inr (.inr (.inr ⟨(b.2.2.2.2.1[i].1, n, b.2.2.2.2.1[i].2.2), by rw [e3]; exact List.mem_set hk _, rfl⟩)))))
    · exact .inr (.inr (.inr (.inr (.inr (.inr ⟨_, by rw [e3]; exact set_ne hk hr (row_ne hs hi hk hik), rfl⟩)))))
 | bare hk e =>
  obtain ⟨e1, e2, e3, e4⟩ := e
  rename_i k n s o
  rcases hz with hz | hz | hz | ⟨r, hr, rfl⟩ | ⟨i, rfl, hi⟩ | ⟨r, hr, rfl⟩ | ⟨r, hr, rfl⟩
  · exact .inl (by rw [hz, e1])
  · refine .inr (.inl ?_); simp only [e2]; exact hz
  · refine .inr (.inr (.inl ?_)); simp only [e4]; exact hz
  · obtain ⟨q, hq, eq⟩ := set_has hk (q := (b.2.2.2.2.1[k].1, b.2.2.2.2.1[k].2.1, n)) hr rfl
    exact .inr (.inr (.inr (.inl ⟨q, by rw [e3]; exact hq, by rw [eq]⟩)))
  · exact .inr (.inr (.inr (.inr (.inl ⟨i, rfl, by rw [e3]; exact set_id hk (q := (b.2.2.2.2.1[k].1, b.2.2.2.2.1[k].2.1, n)) rfl hi⟩))))
  · obtain ⟨i, hi, rfl⟩ := List.getElem_of_mem hr
    by_cases hik : i = k
    · subst hik
      exact .inr (.inr (.inr (.inr (.inr (.inl ⟨(b.2.2.2.2.1[i].1, b.2.2.2.2.1[i].2.1, n), by rw [e3]; exact List.mem_set hk _, rfl⟩)))))
    · exact .inr (.inr (.inr (.inr (.inr (.inl ⟨_, by rw [e3]; exact set_ne hk hr (row_ne hs hi hk hik), rfl⟩)))))
  · exact .inr (.inr (.inr (.inr (.inr (.inr ⟨r, by rw [e3]; exact set_ne hk hr (fun h => hne (by show [1, 3, 1, 3, 3, r.1] = _; rw [h])), rfl⟩)))))
theorem steps_fact {b y : Bridge} {l : List Bind} (h : Steps b l y) : (∀ x ∈ l, XSm x) → l.Pairwise (fun u v => u.1 ≠ v.1) → ∀ z ∈ l, Fact y z ∨ ∃ x ∈ l, Struck x z.1 := by
 induction h with
 | nil => intro _ _ z hz; cases hz
 | snoc hs hy he ih =>
  rename_i l y y' x
  intro hx hp z hz
  have hp' := List.pairwise_append.1 hp
  have hM : M = 1048576 := rfl
  have hxx := hx x (by simp)
  have hd := did hy (by have := hxx.1; omega) he
  rcases List.mem_append.1 hz with hz | hz
  · have hne := hp'.2.2 z hz x (by simp)
    rcases ih (fun u hu => hx u (List.mem_append.2 (.inl hu))) hp'.1 z hz with hf | ⟨u, hu, hst⟩
    · by_cases hst : Struck x z.1
      · exact .inr ⟨x, by simp, hst⟩
      · exact .inl (did_keep hy.s hd hf hne hst)
    · exact .inr ⟨u, List.mem_append.2 (.inl hu), hst⟩
  · rw [List.mem_singleton] at hz
    subst hz
    exact .inl (did_fact hy.s hd hxx.2.2.2)
/-- Is it a row's status? -/
def condC (o : List Int) : Option Bool := (cond ((o.length : Int) == 6) ((at? o 3).bind fun x93 => some (x93 == 3)) (some false)).bind fun t96 => cond t96 ((at? o 4).bind fun x99 => some (x99 == 1)) (some false)
/-- What is asked for it, on a right bridge. -/
theorem getFact {b : Bridge} (h : BOk b) {z : Bind} (hz : Fact b z) :
 (condC z.1 = some false ∧ impl_MibGet b z.1 = some z.2 ∧ z.2.2.2.2 = []) ∨ (condC z.1 = some true ∧ ∃ v, impl_MibGet b z.1 = some v ∧ (v.1 == 128) = (z.2.2.1 == 6)) := by
 have hq := h.sok.q
 have hn6 := h.n6
 have key : ∀ (o : List Int) (v : Val), o.length ≤ 10 → ((o, v) : Bind) ∈ mib b → impl_MibGet b o = some v := by
  intro o v ho hm
  obtain ⟨e, hx⟩ := getE h (o := o) (by omega)
  rw [e]
  rcases hx with ⟨x, h1, h2, h3⟩ | ⟨h1, _⟩
  · have := mib_one h h1 hm h2
    rw [h3, this]
  · exact absurd rfl (h1 _ hm)
 rcases hz with rfl | ⟨k, hk, rfl⟩ | ⟨k, hk, rfl⟩ | ⟨r, hr, rfl⟩ | ⟨i, rfl, hi⟩ | ⟨r, hr, rfl⟩ | ⟨r, hr, rfl⟩
 · exact .inl ⟨rfl, key _ _ (by simp) (by unfold mib mib5; simp), rfl⟩
 · refine .inl ⟨rfl, key _ _ (by simp) ?_, rfl⟩
   have e2 : portV b 2 (k : Int) = b.2.2.1[k].2.1 := by
    unfold portV impl_portThing
    rw [show ((2 : Int) == 1) = false from rfl, cond_false, show ((2 : Int) == 2) = true from rfl, cond_true, at_nat hk]; rfl
   unfold mib
   simp only [List.mem_append, List.mem_flatMap]
   refine .inl (.inl (.inr ⟨1, by simp, ?_⟩))
   unfold portG
   refine List.mem_map.2 ⟨k, List.mem_range.2 hk, ?_⟩
   show num [2, 2, ((k + 1 : Nat) : Int)] (portV b 2 (k : Int)) = _
   rw [e2]; rfl
 · refine .inl ⟨rfl, key _ _ (by simp) ?_, rfl⟩
   have e2 : portV b 4 (k : Int) = b.2.2.2.2.2.1[k] := by
    unfold portV impl_portThing
    rw [show ((4 : Int) == 1) = false from rfl, cond_false, show ((4 : Int) == 2) = false from rfl, cond_false, show ((4 : Int) == 3) = false from rfl, cond_false, at_nat hk]; rfl
   unfold mib
   simp only [List.mem_append, List.mem_flatMap]
   refine .inl (.inl (.inr ⟨3, by simp, ?_⟩))
   unfold portG
   refine List.mem_map.2 ⟨k, List.mem_range.2 (by omega), ?_⟩
   show num [2, 4, ((k + 1 : Nat) : Int)] (portV b 4 (k : Int)) = _
   rw [e2]; rfl
 · refine .inr ⟨rfl, (2, 1, [], []), key _ _ (by simp) ?_, rfl⟩
   unfold mib
   simp only [List.mem_append, List.mem_flatMap]
   exact .inl (.inr ⟨0, by simp, List.mem_map.2 ⟨r, hr, rfl⟩⟩)
 · obtain ⟨e, hx⟩ := getE h (o := [1, 3, 1, 3, 1, i]) (by simp)
   refine .inr ⟨rfl, _, e, ?_⟩
   rcases hx with ⟨x, h1, h2, h3⟩ | ⟨_, h1⟩
   · exfalso
     unfold mib mib5 portG rowG fdbG num at h1
     simp only [List.mem_append, List.mem_flatMap, List.mem_map, List.mem_cons, List.not_mem_nil, or_false] at h1
     rcases h1 with (((rfl | rfl | rfl | rfl | rfl) | ⟨c, _, k, _, rfl⟩) | ⟨c, _, r, hr, rfl⟩) | ⟨e, _, rfl⟩
     · simp at h2
     · simp at h2
     · simp at h2
     · simp at h2
     · simp at h2
     · simp at h2
     · simp at h2
       exact hi r hr h2.2
     · simp at h2
   · rw [h1]; rfl
 · refine .inl ⟨rfl, key _ _ (by simp) ?_, rfl⟩
   unfold mib
   simp only [List.mem_append, List.mem_flatMap]
   exact .inl (.inr ⟨1, by simp, List.mem_map.2 ⟨r, hr, rfl⟩⟩)
 · refine .inl ⟨rfl, key _ _ (by simp) ?_, rfl⟩
   unfold mib
   simp only [List.mem_append, List.mem_flatMap]
   exact .inl (.inr ⟨2, by simp, List.mem_map.2 ⟨r, hr, rfl⟩⟩)
/-! ### the law -/
theorem goneS {l : List Bind} {c id : Int} {k : Nat} (hk : k < l.length) (hl : l.length ≤ 1000) : ∃ t : Bool, laws_gone_l0 l [1, 3, 1, 3, c, id] (k : Int) = cond t (some (.inr (.inr true))) (some (.inl ((k + 1 : Nat) : Int))) ∧ (l[k].1 = [1, 3, 1, 3, 1, id] → t = true) := by
 unfold laws_gone_l0
 rw [dlt (by omega), cond_true, at_nat hk, Option.bind_some, w64_nat (by omega), show ((([1, 3, 1, 3, c, id] : List Int).length : Int) == 6) = true from rfl, cond_true, Option.bind_some, show at? [1, 3, 1, 3, c, id] 3 = some (3 : Int) from rfl, show at? [1, 3, 1, 3, c, id] 5 = some id from rfl]
 generalize l[k].1 = y
 by_cases h6 : y.length = 6
 · obtain ⟨a0, a1, a2, a3, a4, a5, rfl⟩ : ∃ a0 a1 a2 a3 a4 a5, y = [a0, a1, a2, a3, a4, a5] := by
    match y, h6 with
    | [a0, a1, a2, a3, a4, a5], _ => exact ⟨_, _, _, _, _, _, rfl⟩
   rw [show ((([a0, a1, a2, a3, a4, a5] : List Int).length : Int) == 6) = true from rfl, cond_true, Option.bind_some, show ((3 : Int) == 3) = true from rfl, Option.bind_some, cond_true, show at? [a0, a1, a2, a3, a4, a5] 3 = some a3 from rfl, show at? [a0, a1, a2, a3, a4, a5] 4 = some a4 from rfl, show at? [a0, a1, a2, a3, a4, a5] 5 = some a5 from rfl]
   simp only [Option.bind_some]
   refine ⟨(a3 == 3) && ((a4 == 1) && (a5 == id)), ?_, fun e => ?_⟩
   · cases (a3 == 3) <;> cases (a4 == 1) <;> cases (a5 == id) <;> rfl
   · simp only [List.cons.injEq, and_true] at e
     obtain ⟨_, _, _, e3, e4, e5⟩ := e
     rw [e3, e4, e5]
     simp
 · rw [beq_eq_false_iff_ne.2 (show (y.length : Int) ≠ 6 by omega), cond_false, Option.bind_some, cond_false, Option.bind_some, cond_false, Option.bind_some, cond_false, Option.bind_some]
   exact ⟨false, rfl, fun e => absurd (by rw [e]; rfl) h6⟩
theorem goneT {l : List Bind} {x : Bind} {c id : Int} (hl : l.length ≤ 1000) (hx : x ∈ l) (hxo : x.1 = [1, 3, 1, 3, 1, id]) : laws_gone l [1, 3, 1, 3, c, id] = some true := by
 obtain ⟨j, hj, rfl⟩ := List.getElem_of_mem hx
 unfold laws_gone
 obtain ⟨v, e1, rfl⟩ := loop_inv (step := fun z : Int => laws_gone_l0 l [1, 3, 1, 3, c, id] z) (fun k z => z = (k : Int) ∧ k ≤ j) l.length (fun v => v = .inr true)
  (fun k z hk ⟨e, hkj⟩ => by
   subst e
   obtain ⟨t, h1, h2⟩ := goneS (c := c) (id := id) hk hl
   cases t with
   | true => exact .inr ⟨_, h1, rfl⟩
   | false =>
    have : k ≠ j := fun e => by subst e; exact absurd (h2 hxo) (by decide)
    exact .inl ⟨_, h1, rfl, by omega⟩)
  (fun z ⟨e, h⟩ => by omega) (x := 0) ⟨rfl, Nat.zero_le _⟩
 have e1 : loop (fun z => laws_gone_l0 l [1, 3, 1, 3, c, id] z) 0 = some (.inr true) := e1
 rw [e1]; rfl
theorem oneSt {T : Bridge × Pdu} {b : Bridge} (h : BOk b) {k : Nat} (hk : k < T.2.2.2.2.2.length) (hl : T.2.2.2.2.2.length ≤ 1000) (hx : XSm T.2.2.2.2.2[k]) (hf : Fact b T.2.2.2.2.2[k] ∨ ∃ x ∈ T.2.2.2.2.2, Struck x T.2.2.2.2.2[k].1) :
 laws_FnSets_l0 T (k : Int) b.1 b.2.1 b.2.2.1 b.2.2.2.1 b.2.2.2.2.1 b.2.2.2.2.2.1 b.2.2.2.2.2.2.1 b.2.2.2.2.2.2.2.1 b.2.2.2.2.2.2.2.2.1 b.2.2.2.2.2.2.2.2.2.1 b.2.2.2.2.2.2.2.2.2.2 = some (.inl (((k + 1 : Nat) : Int), b.1, b.2.1, b.2.2.1, b.2.2.2.1, b.2.2.2.2.1, b.2.2.2.2.2.1, b.2.2.2.2.2.2.1, b.2.2.2.2.2.2.2.1, b.2.2.2.2.2.2.2.2.1, b.2.2.2.2.2.2.2.2.2.1, b.2.2.2.2.2.2.2.2.2.2)) := by
 unfold laws_FnSets_l0
 have hM : M = 1048576 := rfl
 obtain ⟨hx1, hx2, hx3, hx4⟩ := hx
 have hkq : T.2.2.2.2.2[k]? = some T.2.2.2.2.2[k] := List.getElem?_eq_getElem hk
 rw [dlt (by omega), cond_true, ix_nat hk, Option.bind_some, hkq, Option.bind_some, w64_nat (by omega)]
 generalize hz : T.2.2.2.2.2[k] = z at *
 have hget : ∃ v, impl_MibGet (b.1, b.2.1, b.2.2.1, b.2.2.2.1, b.2.2.2.2.1, b.2.2.2.2.2.1, b.2.2.2.2.2.2.1, b.2.2.2.2.2.2.2.1, b.2.2.2.2.2.2.2.2.1, b.2.2.2.2.2.2.2.2.2.1, b.2.2.2.2.2.2.2.2.2.2) z.1 = some v := by
  obtain ⟨e, _⟩ := getE h (o := z.1) (by omega)
  exact ⟨_, e⟩
 have hassoc : ∀ (K : Bool → Option ((Int × Int × List UInt8 × List Pt × List Fent × List Vrow × List Int × Int × Int × Int × Int × Int) ⊕ ((Int × List UInt8 × List Pt × List Fent × List Vrow × List Int × Int × Int × Int × Int × Int) ⊕ Bool))), ((cond ((z.1.length : Int) == 6) ((at? z.1 3).bind fun x93 => some (x93 == 3)) (some false)).bind fun t96 => (cond t96 ((at? z.1 4).bind fun x99 => some (x99 == 1)) (some false)).bind K) = (condC z.1).bind K := fun K => by
  unfold condC
  rw [Option.bind_assoc]
 rcases hf with hf | ⟨x, hx, c, id, e1, e2, e3⟩
 · rcases getFact h hf with ⟨c1, c2, c3⟩ | ⟨c1, v, c2, c3⟩
   · have c2' : impl_MibGet (b.1, b.2.1, b.2.2.1, b.2.2.2.1, b.2.2.2.2.1, b.2.2.2.2.2.1, b.2.2.2.2.2.2.1, b.2.2.2.2.2.2.2.1, b.2.2.2.2.2.2.2.2.1, b.2.2.2.2.2.2.2.2.2.1, b.2.2.2.2.2.2.2.2.2.2) z.1 = some z.2 := c2
     rw [c2', Option.bind_some, hassoc, c1, Option.bind_some, cond_false, Option.bind_some, hkq, Option.bind_some, sameV1 (by rw [c3]; simp), Option.bind_some]
     rfl
   · have c2' : impl_MibGet (b.1, b.2.1, b.2.2.1, b.2.2.2.1, b.2.2.2.2.1, b.2.2.2.2.2.1, b.2.2.2.2.2.2.1, b.2.2.2.2.2.2.2.1, b.2.2.2.2.2.2.2.2.1, b.2.2.2.2.2.2.2.2.2.1, b.2.2.2.2.2.2.2.2.2.2) z.1 = some v := c2
     rw [c2', Option.bind_some, hassoc, c1, Option.bind_some, cond_true, Option.bind_some, hkq, Option.bind_some, c3, beq_self_eq_true, Bool.not_true, cond_false]
 · obtain ⟨v, hv⟩ := hget
   have hc : condC z.1 = some false := by
    rw [e1]
    show some (c == 1) = some false
    rw [beq_eq_false_iff_ne.2 e2]
   rw [hv, Option.bind_some, hassoc, hc, Option.bind_some, cond_false, Option.bind_some, hkq, Option.bind_some]
   have hsv : ∃ t, impl_SameVal v z.2 = some t := by
    unfold impl_SameVal
    rw [sameO (by omega)]
    cases (v.1 == z.2.1) <;> cases (v.2.1 == z.2.2.1) <;> cases (v.2.2.1 == z.2.2.2.1) <;> exact ⟨_, rfl⟩
   obtain ⟨t, ht⟩ := hsv
   have hg : laws_gone T.2.2.2.2.2 z.1 = some true := by rw [e1]; exact goneT hl hx e3
   rw [ht, Option.bind_some, hg]
   cases t <;> rfl
theorem fnSets_pure (code : List Int) : laws_FnSets code = some true := by
 unfold laws_FnSets laws_big
 by_cases hbig : (code.length : Int) > 1048576
 · simp only [decide_eq_true hbig, Option.bind_some, cond_true]
 simp only [decide_eq_false hbig, Option.bind_some, cond_false]
 obtain ⟨b, p, e, hb, _, hp⟩ := askedD (code := code) (by omega)
 have hn3 := hp.n
 obtain ⟨r, r1, r2, r3, r4, r5⟩ := setAllX hb.w hb.le (l := p.2.2.2.2) hp.le
 obtain ⟨s1, s2⟩ := r4 hb.ok
 have hr : BOk r.1 := bok (bwf_of s1 r3) s2
 rw [e, Option.bind_some, r1, Option.bind_some, r2, Option.bind_some]
 rw [bne_self_eq_false, cond_false, bne_self_eq_false, Option.bind_some, cond_false, sameX hr, Option.bind_some, Bool.not_true, Option.bind_some, cond_false, bridgeT hr.w, Option.bind_some, hr.ok, Bool.not_true, Option.bind_some, cond_false]
 rcases r5 with ⟨c1, c2, c3⟩ | ⟨c1, c2, c3, c4, _⟩
 · rw [c1, c2, bne_self_eq_false, cond_false]
   have hlp : loop (fun z : Int × Int × List UInt8 × List Pt × List Fent × List Vrow × List Int × Int × Int × Int × Int × Int => laws_FnSets_l0 (b, p) z.1 z.2.1 z.2.2.1 z.2.2.2.1 z.2.2.2.2.1 z.2.2.2.2.2.1 z.2.2.2.2.2.2.1 z.2.2.2.2.2.2.2.1 z.2.2.2.2.2.2.2.2.1 z.2.2.2.2.2.2.2.2.2.1 z.2.2.2.2.2.2.2.2.2.2.1 z.2.2.2.2.2.2.2.2.2.2.2) (0, r.1.1, r.1.2.1, r.1.2.2.1, r.1.2.2.2.1, r.1.2.2.2.2.1, r.1.2.2.2.2.2.1, r.1.2.2.2.2.2.2.1, r.1.2.2.2.2.2.2.2.1, r.1.2.2.2.2.2.2.2.2.1, r.1.2.2.2.2.2.2.2.2.2.1, r.1.2.2.2.2.2.2.2.2.2.2) = some (.inl (r.1.1, r.1.2.1, r.1.2.2.1, r.1.2.2.2.1, r.1.2.2.2.2.1, r.1.2.2.2.2.2.1, r.1.2.2.2.2.2.2.1, r.1.2.2.2.2.2.2.2.1, r.1.2.2.2.2.2.2.2.2.1, r.1.2.2.2.2.2.2.2.2.2.1, r.1.2.2.2.2.2.2.2.2.2.2)) := by
    have hf : ∀ k (hk : k < p.2.2.2.2.length), Fact r.1 p.2.2.2.2[k] ∨ ∃ x ∈ p.2.2.2.2, Struck x p.2.2.2.2[k].1 := by
     intro k hk
     rcases c3 with ⟨c3, _⟩ | ⟨y, y1, y2, y3, y4⟩
     · rw [c3] at hk; cases hk
     · have hpw : p.2.2.2.2.Pairwise (fun u v => u.1 ≠ v.1) := List.pairwise_iff_getElem.2 fun i j hi hj hij => y3 j hj i hij
       rcases steps_fact y1 hp.s hpw _ (List.getElem_mem hk) with h | h
       · obtain ⟨r', t1, _, _, t4, t5, t6, _, t8, _⟩ := turnZ y2
         rw [y4] at t1
         cases t1
         exact .inl (h.of t8 t4 t5 t6)
       · exact .inr h
    obtain ⟨v, e1, rfl⟩ := loop_inv (step := fun z : Int × Int × List UInt8 × List Pt × List Fent × List Vrow × List Int × Int × Int × Int × Int × Int => laws_FnSets_l0 (b, p) z.1 z.2.1 z.2.2.1 z.2.2.2.1 z.2.2.2.2.1 z.2.2.2.2.2.1 z.2.2.2.2.2.2.1 z.2.2.2.2.2.2.2.1 z.2.2.2.2.2.2.2.2.1 z.2.2.2.2.2.2.2.2.2.1 z.2.2.2.2.2.2.2.2.2.2.1 z.2.2.2.2.2.2.2.2.2.2.2) (fun k z => z = ((k : Int), r.1.1, r.1.2.1, r.1.2.2.1, r.1.2.2.2.1, r.1.2.2.2.2.1, r.1.2.2.2.2.2.1, r.1.2.2.2.2.2.2.1, r.1.2.2.2.2.2.2.2.1, r.1.2.2.2.2.2.2.2.2.1, r.1.2.2.2.2.2.2.2.2.2.1, r.1.2.2.2.2.2.2.2.2.2.2)) p.2.2.2.2.length (fun v => v = .inl (r.1.1, r.1.2.1, r.1.2.2.1, r.1.2.2.2.1, r.1.2.2.2.2.1, r.1.2.2.2.2.2.1, r.1.2.2.2.2.2.2.1, r.1.2.2.2.2.2.2.2.1, r.1.2.2.2.2.2.2.2.2.1, r.1.2.2.2.2.2.2.2.2.2.1, r.1.2.2.2.2.2.2.2.2.2.2))
     (fun k z hk e => by
      subst e
      exact .inl ⟨_, oneSt (T := (b, p)) hr hk (by show p.2.2.2.2.length ≤ 1000; omega) (hp.s _ (List.getElem_mem hk)) (hf k hk), rfl⟩)
     (fun z e => by
      subst e
      refine ⟨_, ?_, rfl⟩
      show laws_FnSets_l0 (b, p) _ _ _ _ _ _ _ _ _ _ _ _ = _
      unfold laws_FnSets_l0
      rw [dnlt (by show ¬ (p.2.2.2.2.length : Int) < (p.2.2.2.2.length : Int); omega), cond_false]) (x := (0, r.1.1, r.1.2.1, r.1.2.2.1, r.1.2.2.2.1, r.1.2.2.2.2.1, r.1.2.2.2.2.2.1, r.1.2.2.2.2.2.2.1, r.1.2.2.2.2.2.2.2.1, r.1.2.2.2.2.2.2.2.2.1, r.1.2.2.2.2.2.2.2.2.2.1, r.1.2.2.2.2.2.2.2.2.2.2)) rfl
    exact e1
   refine (congrArg (fun o => Option.bind o _) hlp).trans ?_
   rw [Option.bind_some, Sum.elim_inl]; rfl
 · rw [show (r.2.1 != 0) = true from bne_iff_ne.2 c2, cond_true, c1, sameX hb, Option.bind_some, cond_true, decide_eq_true (show r.2.2 ≥ 1 by omega), Option.bind_some, cond_true, decide_eq_true c4, Option.bind_some]
end Go.V.W

