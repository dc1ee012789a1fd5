/- The law FnTexts: part of the proof that for every input it returns true. No condition. -/
import Derived.KernelRfl
import Derived.Test.YtpfjdhdmkacnbaaGreatDoorFnTextsA
import Derived.Test.YtpfjdhdmkacnbaaGreatDoorV4
namespace Go.V.W
set_option linter.unusedVariables false
set_option linter.unusedSimpArgs false
set_option linter.unusedVariables false
abbrev M : Nat := 1048576
abbrev In (left : Int) : Prop := 0 ≤ left ∧ left ≤ 1048576
theorem In.next {left r : Int} (h : In left) (h1 : 0 ≤ r) (h2 : r ≤ left) : In r := ⟨h1, by have := h.2; omega⟩
theorem le32 {n : Nat} (h : n ≤ M) : n ≤ 4294967295 := Nat.le_trans h (by decide)
def BLe (n : Nat) (b : Bridge) : Prop := b.2.1.length ≤ n ∧ b.2.2.1.length ≤ n ∧ b.2.2.2.1.length ≤ n ∧ b.2.2.2.2.1.length ≤ n ∧ b.2.2.2.2.2.1.length ≤ n
def VLe (n : Nat) (v : Val) : Prop := v.2.2.1.length ≤ n ∧ v.2.2.2.length ≤ n
def XLe (n : Nat) (x : Bind) : Prop := x.1.length ≤ n ∧ VLe n x.2
def XsLe (n : Nat) (l : List Bind) : Prop := l.length ≤ n ∧ ∀ x ∈ l, XLe n x
def PLe (n : Nat) (p : Pdu) : Prop := XsLe n p.2.2.2.2
set_option linter.unusedVariables false
set_option linter.unusedSimpArgs false
theorem loop_ext {α β : Type} {f g : α → Option (α ⊕ β)} (h : ∀ x, f x = g x) (x : α) : loop f x = loop g x := by rw [funext h]
def pIn (x a b : Int) : Bool := decide (x ≥ a) && decide (x ≤ b)
theorem inT (x a b : Int) : impl_in x a b = some (pIn x a b) := by
  unfold impl_in pIn
  cases decide (x ≥ a) <;> rfl
theorem inS (x a b : Int) : spec_l1In x a b = some (pIn x a b) := inT x a b
def pVec (v : Vec) : Bool := pIn v.1 1 99 && (pIn v.2.1 0 100000 && (pIn v.2.2.1 0 10 && (pIn v.2.2.2.1 1 99 && pIn v.2.2.2.2 0 7)))
theorem vecT (v : Vec) : impl_VecOk v = some (pVec v) := by
  unfold impl_VecOk pVec
  simp only [inT, Option.bind_some]
  cases pIn v.1 1 99 <;> cases pIn v.2.1 0 100000 <;> cases pIn v.2.2.1 0 10 <;> cases pIn v.2.2.2.1 1 99 <;> rfl
def pPt (p : Pt) : Bool := pIn p.2.1 1 1000 && (!(p.2.2.1 && !p.1) && (cond p.2.2.1 (pVec p.2.2.2) (p.2.2.2.1 == 0 && (p.2.2.2.2.1 == 0 && (p.2.2.2.2.2.1 == 0 && (p.2.2.2.2.2.2.1 == 0 && (p.2.2.2.2.2.2.2 == 0)))))))
theorem all_loop {n : Nat} {c : Int → Option Bool} {b : Nat → Bool} (hn : n < 9223372036854775807) (hc : ∀ k, k < n → c (k : Int) = some (b k)) :
    loop (fun i : Int => cond (decide (i < (n : Int))) ((c i).bind fun t => cond t (some (.inr (.inr false))) (some (.inl (w64 (i + 1))))) (some (.inr (.inl ())))) 0 = some (cond ((List.range n).any b) (Sum.inr false) (Sum.inl ()) : Unit ⊕ Bool) := by
  obtain ⟨v, h1, h2⟩ := loop_inv (β := Unit ⊕ Bool) (step := fun i : Int => cond (decide (i < (n : Int))) ((c i).bind fun t => cond t (some (.inr (.inr false))) (some (.inl (w64 (i + 1))))) (some (.inr (.inl ()))))
    (fun k i => i = (k : Int) ∧ (List.range k).any b = false) n (fun v => v = cond ((List.range n).any b) (Sum.inr false) (Sum.inl ()))
    (fun k i hk ⟨e, ha⟩ => by
      subst e
      have hs : (cond (decide ((k : Int) < (n : Int))) ((c (k : Int)).bind fun t => cond t (some (.inr (.inr false))) (some (.inl (w64 ((k : Int) + 1))))) (some (.inr (.inl ()))) : Option (Int ⊕ (Unit ⊕ Bool))) = cond (b k) (some (.inr (.inr false))) (some (.inl ((k + 1 : Nat) : Int))) := by
        rw [dlt (by omega), cond_true, hc k hk, Option.bind_some, w64_nat (by omega)]
      cases hb : b k with
      | true =>
        refine .inr ⟨.inr false, by rw [hs, hb]; rfl, ?_⟩
        have : (List.range n).any b = true := List.any_eq_true.2 ⟨k, List.mem_range.2 hk, hb⟩
        rw [this]; rfl
      | false =>
        refine .inl ⟨_, by rw [hs, hb]; rfl, rfl, ?_⟩
        rw [List.range_succ, List.any_append, ha]; simp [hb])
    (fun i ⟨e, ha⟩ => by
      subst e
      exact ⟨.inl (), by rw [dnlt (by omega), cond_false], by rw [ha]; rfl⟩) (x := 0) ⟨rfl, rfl⟩
  rw [h1, h2]
def pFent (e : Fent) : Bool := pIn e.1 1 99 && (pIn e.2.1 1 9999 && (pIn e.2.2.1 0 7 && (pIn e.2.2.2.1 0 4 && (!e.2.2.2.2 || e.2.2.2.1 == 0))))
theorem fentT (e : Fent) : impl_fentOk e = some (pFent e) := by
  unfold impl_fentOk pFent
  simp only [inT, Option.bind_some]
  cases pIn e.1 1 99 <;> cases pIn e.2.1 1 9999 <;> cases pIn e.2.2.1 0 7 <;> cases pIn e.2.2.2.1 0 4 <;> cases e.2.2.2.2 <;> rfl
theorem fentS : spec_l8Ent = impl_fentOk := rfl
def pBehind (e : Fent) (tag mac : Int) : Bool := decide (e.1 > tag) || (e.1 == tag && decide (e.2.1 > mac))
theorem aheadS (p e : Fent) : spec_l8Ahead p e.1 e.2.1 = some (pBehind e p.1 p.2.1) := by
  unfold spec_l8Ahead pBehind
  by_cases h : p.1 = e.1
  · simp [h]
  · have h' : ¬ e.1 = p.1 := fun k => h k.symm
    have e1 : (p.1 != e.1) = true := by simpa using h
    have e2 : (e.1 == p.1) = false := by simpa using h'
    rw [e1, e2, cond_true, Bool.false_and, Bool.or_false]
def bFent (l : List Fent) (k : Nat) : Bool := match l[k]? with
  | some e => !(pFent e) || (decide (0 < k) && (match l[k - 1]? with | some p => !(pBehind e p.1 p.2.1) | none => false))
  | none => false
def pFdb (l : List Fent) : Bool := !((List.range l.length).any (bFent l)) && decide ((l.length : Int) ≤ 12)
theorem prev_at {α : Type} {l : List α} {k : Nat} (h : k < l.length) (hk : 0 < k) (hn : l.length < 9223372036854775807) : at? l (w64 ((k : Int) - 1)) = some l[k - 1] := by
  rw [w64_id (by omega) (by omega), show (k : Int) - 1 = ((k - 1 : Nat) : Int) by omega, at_nat (by omega)]
theorem fdbS {l : List Fent} (hn : l.length < 9223372036854775807) : spec_FdbOk l = some (pFdb l) := by
  unfold spec_FdbOk pFdb
  have h := all_loop (n := l.length) (c := fun i => (at? l i).bind fun x12 => (spec_l8Ent x12).bind fun t14 => (cond (!t14) (some true) ((cond (decide (i > 0)) ((at? l (w64 (i - 1))).bind fun x23 => (at? l i).bind fun x27 => (at? l i).bind fun x32 => (spec_l8Ahead x23 x27.1 x32.2.1).bind fun t35 => some (!t35)) (some false)).bind fun t37 => some t37)).bind fun t => some t) (b := bFent l) hn (fun k hk => by
    simp only [at_nat hk, Option.bind_some, fentS, fentT, bFent, List.getElem?_eq_getElem hk]
    cases pFent l[k] with
    | false => rfl
    | true =>
      by_cases h0 : 0 < k
      · have hd : decide ((k : Int) > 0) = true := decide_eq_true (by omega)
        simp only [hd, prev_at hk h0 hn, Option.bind_some, aheadS, decide_eq_true h0, List.getElem?_eq_getElem (show k - 1 < l.length by omega)]
        rfl
      · have hd : decide ((k : Int) > 0) = false := decide_eq_false (by omega)
        simp only [hd, decide_eq_false h0]
        rfl)
  have e : (loop (fun z => spec_FdbOk_l0 l z) 0) = some (cond ((List.range l.length).any (bFent l)) (Sum.inr false) (Sum.inl ())) := by
    rw [← h]
    refine loop_ext (fun i => ?_) 0
    unfold spec_FdbOk_l0
    simp only [Option.bind_assoc, Option.bind_some]
  rw [e, Option.bind_some]
  cases (List.range l.length).any (bFent l) <;> rfl

set_option linter.unusedVariables false
set_option linter.unusedSimpArgs false
theorem rowAtS : spec_RowAt = impl_RowAt := rfl
theorem rowAtT {v : Vtab} (hn : v.1.length < 9223372036854775807) (id : Int) : ∃ r, impl_RowAt v id = some r := by
  unfold impl_RowAt
  obtain ⟨b, h1, _⟩ := loop_inv (β := Unit ⊕ Int) (step := fun z => impl_RowAt_l0 v id z) (fun k i => i = (k : Int)) v.1.length (fun _ => True)
    (fun k i hk h => by
      subst h
      unfold impl_RowAt_l0
      rw [dlt (by omega), cond_true, at_nat hk, Option.bind_some]
      cases (v.1[k].1 == id) with
      | true => exact .inr ⟨_, rfl, trivial⟩
      | false => exact .inl ⟨_, rfl, w64_nat (by omega)⟩)
    (fun i h => by
      subst h
      unfold impl_RowAt_l0
      rw [dnlt (by omega)]
      exact ⟨_, rfl, trivial⟩) (x := 0) rfl
  rw [h1, Option.bind_some]
  cases b with
  | inl _ => exact ⟨_, rfl⟩
  | inr r => exact ⟨r, rfl⟩
def pTop (i : Int) : Int := (2 : Int) ^ i.toNat - 1
theorem range6 {i : Int} (h : pIn i 1 6 = true) : i = 1 ∨ i = 2 ∨ i = 3 ∨ i = 4 ∨ i = 5 ∨ i = 6 := by
  unfold pIn at h
  simp only [Bool.and_eq_true, decide_eq_true_eq] at h
  omega
theorem shlS {i : Int} (h : pIn i 1 6 = true) : ∃ t, shl .i64 1 (IntKind.u64.wrap i) = some t ∧ w64 (t - 1) = pTop i := by
  rcases range6 h with rfl | rfl | rfl | rfl | rfl | rfl <;> exact ⟨_, rfl, rfl⟩
theorem topLe {i : Int} (h : pIn i 1 6 = true) : 1 ≤ pTop i ∧ pTop i ≤ 63 := by
  rcases range6 h with rfl | rfl | rfl | rfl | rfl | rfl <;> decide
theorem wrap_toNat (x : BitVec 64) : IntKind.i64.wrap (x.toNat : Int) = x.toInt := by
  have hx := x.isLt
  rw [BitVec.toInt_eq_toNat_cond]
  show (let m := (x.toNat : Int) % 18446744073709551616; if (true && decide (m ≥ 9223372036854775808)) = true then m - 18446744073709551616 else m) = _
  simp only [Bool.true_and, decide_eq_true_eq]
  have h1 : (x.toNat : Int) % 18446744073709551616 = (x.toNat : Int) := by omega
  rw [h1]
  split <;> split <;> omega
theorem ofInt_toInt {b : Int} (h1 : -9223372036854775808 ≤ b) (h2 : b ≤ 9223372036854775807) : (BitVec.ofInt 64 b).toInt = b := by
  rw [BitVec.toInt_ofInt]
  unfold Int.bmod
  simp only
  split <;> omega
theorem bandT (a b : Int) : band .i64 a b = (BitVec.ofInt 64 a &&& BitVec.ofInt 64 b).toInt := wrap_toNat _
theorem bclrT (a b : Int) : bclr .i64 a b = (BitVec.ofInt 64 a &&& ~~~ BitVec.ofInt 64 b).toInt := wrap_toNat _
theorem and_iff (x y : BitVec 64) : x &&& y = x ↔ x &&& ~~~ y = 0 := by
  constructor
  · intro h
    apply BitVec.eq_of_getLsbD_eq
    intro i hi
    have := congrArg (fun z => z.getLsbD i) h
    simp only [BitVec.getLsbD_and] at this
    simp only [BitVec.getLsbD_and, BitVec.getLsbD_not, BitVec.getLsbD_zero, hi, decide_true, Bool.true_and]
    cases hx : x.getLsbD i <;> cases hy : y.getLsbD i <;> simp_all
  · intro h
    apply BitVec.eq_of_getLsbD_eq
    intro i hi
    have := congrArg (fun z => z.getLsbD i) h
    simp only [BitVec.getLsbD_and, BitVec.getLsbD_not, BitVec.getLsbD_zero, hi, decide_true, Bool.true_and] at this
    simp only [BitVec.getLsbD_and]
    cases hx : x.getLsbD i <;> cases hy : y.getLsbD i <;> simp_all
theorem bits_same {b m : Int} (h1 : -9223372036854775808 ≤ b) (h2 : b ≤ 9223372036854775807) : (band .i64 b m != b) = (bclr .i64 b m != 0) := by
  rw [bandT, bclrT]
  have e : ((BitVec.ofInt 64 b &&& BitVec.ofInt 64 m).toInt = b) ↔ ((BitVec.ofInt 64 b &&& ~~~ BitVec.ofInt 64 m).toInt = 0) := by
    constructor
    · intro h
      have : BitVec.ofInt 64 b &&& BitVec.ofInt 64 m = BitVec.ofInt 64 b := BitVec.eq_of_toInt_eq (by rw [h, ofInt_toInt h1 h2])
      rw [(and_iff _ _).1 this]; rfl
    · intro h
      have : BitVec.ofInt 64 b &&& ~~~ BitVec.ofInt 64 m = 0 := BitVec.eq_of_toInt_eq (by rw [h]; rfl)
      rw [(and_iff _ _).2 this, ofInt_toInt h1 h2]
  by_cases h : (BitVec.ofInt 64 b &&& BitVec.ofInt 64 m).toInt = b
  · have h' := e.1 h
    simp [h, h']
  · have h' : ¬ (BitVec.ofInt 64 b &&& ~~~ BitVec.ofInt 64 m).toInt = 0 := fun k => h (e.2 k)
    rw [bne_iff_ne.2 h, bne_iff_ne.2 h']
theorem bits_in {b m t : Int} (h1 : -9223372036854775808 ≤ b) (h2 : b ≤ 9223372036854775807) (hm : pIn m 0 t = true) (ht : t ≤ 63) (h : (band .i64 b m != b) = false) : pIn b 0 t = true := by
  unfold pIn at hm ⊢
  simp only [Bool.and_eq_true, decide_eq_true_eq] at hm ⊢
  have h : band .i64 b m = b := by simpa using h
  rw [bandT] at h
  have e : BitVec.ofInt 64 b &&& BitVec.ofInt 64 m = BitVec.ofInt 64 b := BitVec.eq_of_toInt_eq (by rw [h, ofInt_toInt h1 h2])
  have hM : (BitVec.ofInt 64 m).toNat = m.toNat := by
    rw [BitVec.toNat_ofInt]
    omega
  have hle : (BitVec.ofInt 64 b).toNat ≤ m.toNat := by
    rw [← e, BitVec.toNat_and, hM]; exact Nat.and_le_right
  have hb : (BitVec.ofInt 64 b).toInt = ((BitVec.ofInt 64 b).toNat : Int) := by
    rw [BitVec.toInt_eq_toNat_cond]; split <;> omega
  rw [ofInt_toInt h1 h2] at hb
  omega
def bRow (v : Vtab) (i : Int) (k : Nat) : Bool := match v.1[k]? with
  | some r => !(pIn r.1 1 99) || ((decide (0 < k) && (match v.1[k - 1]? with | some p => decide (p.1 ≥ r.1) | none => false)) || (!(pIn r.2.1 0 (pTop i)) || (bclr .i64 r.2.2 r.2.1 != 0)))
  | none => false
noncomputable def bPvid (v : Vtab) (k : Nat) : Bool := match v.2[k]? with
  | some x => (match impl_RowAt v x with | some t => decide (t < 0) | none => false)
  | none => false
noncomputable def pVtab (v : Vtab) (i : Int) : Bool := !(!(pIn i 1 6) || ((v.2.length : Int) != i || decide ((v.1.length : Int) > 6))) && (!((List.range v.1.length).any (bRow v i)) && !((List.range v.2.length).any (bPvid v)))
theorem rows_loopS {v : Vtab} {i t : Int} (hi : pIn i 1 6 = true) (ht : w64 (t - 1) = pTop i) (hn : v.1.length < 9223372036854775807) (hw : ∀ r ∈ v.1, -9223372036854775808 ≤ r.2.2 ∧ r.2.2 ≤ 9223372036854775807) : loop (fun z => spec_VtabOk_l0 v t z) 0 = some (cond ((List.range v.1.length).any (bRow v i)) (Sum.inr false) (Sum.inl ())) := by
  rw [← all_loop (n := v.1.length) (c := fun t6 => (at? v.1 t6).bind fun x39 =>
    (spec_l1In x39.1 1 99).bind fun t43 =>
    (cond (!t43) (some true) ((spec_l1In x39.2.1 0 (w64 (t - 1))).bind fun t49 => some (!t49))).bind fun t51 =>
    (cond t51 (some true) ((spec_l1In x39.2.2 0 (w64 (t - 1))).bind fun t56 => some (!t56))).bind fun t58 =>
    (cond t58 (some true) (some ((band .i64 x39.2.2 x39.2.1) != x39.2.2))).bind fun t68 =>
    (cond t68 (some true) ((cond (decide (t6 > 0)) ((at? v.1 (w64 (t6 - 1))).bind fun x77 => some (decide (x77.1 ≥ x39.1))) (some false)).bind fun t83 => some t83)).bind fun t => some t) (b := bRow v i) hn (fun k hk => by
      obtain ⟨w1, w2⟩ := hw _ (List.getElem_mem hk)
      have hs := bits_same (m := v.1[k].2.1) w1 w2
      have hin := bits_in (m := v.1[k].2.1) (t := pTop i) w1 w2
      have ht2 := (topLe hi).2
      simp only [at_nat hk, Option.bind_some, inS, bRow, List.getElem?_eq_getElem hk, ht]
      rw [← hs]
      cases h1 : pIn v.1[k].1 1 99 with
      | false => rfl
      | true =>
        cases h2 : pIn v.1[k].2.1 0 (pTop i) with
        | false =>
          by_cases h0 : 0 < k
          · simp only [decide_eq_true h0, List.getElem?_eq_getElem (show k - 1 < v.1.length by omega)]
            cases decide (v.1[k - 1].1 ≥ v.1[k].1) <;> rfl
          · simp only [decide_eq_false h0]; rfl
        | true =>
          cases h3 : (band .i64 v.1[k].2.2 v.1[k].2.1 != v.1[k].2.2) with
          | true =>
            by_cases h0 : 0 < k
            · simp only [decide_eq_true h0, List.getElem?_eq_getElem (show k - 1 < v.1.length by omega)]
              cases decide (v.1[k - 1].1 ≥ v.1[k].1) <;> cases pIn v.1[k].2.2 0 (pTop i) <;> rfl
            · simp only [decide_eq_false h0]; cases pIn v.1[k].2.2 0 (pTop i) <;> rfl
          | false =>
            have h4 := hin h2 ht2 h3
            rw [h4]
            by_cases h0 : 0 < k
            · have hd : decide ((k : Int) > 0) = true := decide_eq_true (by omega)
              simp only [hd, prev_at hk h0 hn, Option.bind_some, decide_eq_true h0, List.getElem?_eq_getElem (show k - 1 < v.1.length by omega)]
              cases decide (v.1[k - 1].1 ≥ v.1[k].1) <;> rfl
            · have hd : decide ((k : Int) > 0) = false := decide_eq_false (by omega)
              simp only [hd, decide_eq_false h0]
              rfl)]
  refine loop_ext (fun i => ?_) 0
  unfold spec_VtabOk_l0
  simp only [Option.bind_assoc, Option.bind_some]
theorem pvid_loop {v : Vtab} (hn : v.1.length < 9223372036854775807) (hn2 : v.2.length < 9223372036854775807) : loop (fun z => impl_VtabOk_l2 v z) 0 = some (cond ((List.range v.2.length).any (bPvid v)) (Sum.inr false) (Sum.inl ())) := by
  rw [← all_loop (n := v.2.length) (c := fun t73 => (at? v.2 t73).bind fun x75 => (impl_RowAt v x75).bind fun t79 => some (decide (t79 < 0))) (b := bPvid v) hn2 (fun k hk => by
    obtain ⟨r, hr⟩ := rowAtT hn v.2[k]
    simp only [at_nat hk, Option.bind_some, bPvid, List.getElem?_eq_getElem hk, hr])]
  refine loop_ext (fun i => ?_) 0
  unfold impl_VtabOk_l2
  simp only [Option.bind_assoc, Option.bind_some]
theorem pvidS : spec_VtabOk_l2 = impl_VtabOk_l2 := rfl
theorem vtabS {v : Vtab} (i : Int) (hn : v.1.length < 9223372036854775807) (hn2 : v.2.length < 9223372036854775807) (hw : ∀ r ∈ v.1, -9223372036854775808 ≤ r.2.2 ∧ r.2.2 ≤ 9223372036854775807) : spec_VtabOk v i = some (pVtab v i) := by
  unfold spec_VtabOk pVtab
  simp only [inS, Option.bind_some, pvidS]
  cases hi : pIn i 1 6 with
  | false => rfl
  | true =>
    obtain ⟨t, h1, h2⟩ := shlS hi
    rw [h1, Option.bind_some, rows_loopS hi h2 hn hw, pvid_loop hn hn2]
    cases ((v.2.length : Int) != i) <;> cases decide ((v.1.length : Int) > 6) <;> cases (List.range v.1.length).any (bRow v i) <;> cases (List.range v.2.length).any (bPvid v) <;> rfl
def bPt (l : List Pt) (k : Nat) : Bool := match l[k]? with | some p => !(pPt p) | none => false
def pCounts (b : Bridge) : Bool := pIn b.2.2.2.2.2.2.1 0 1000000 && (pIn b.2.2.2.2.2.2.2.1 0 1000000 && (pIn b.2.2.2.2.2.2.2.2.1 0 1000000 && (pIn b.2.2.2.2.2.2.2.2.2.1 0 1000000 && pIn b.2.2.2.2.2.2.2.2.2.2 0 1000000)))
noncomputable def pBridge (b : Bridge) : Bool := !((List.range b.2.2.1.length).any (bPt b.2.2.1)) && (pIn b.1 1 99 && (!(decide ((b.2.1.length : Int) > 10)) && (pIn (b.2.2.1.length : Int) 1 6 && (pFdb b.2.2.2.1 && (pVtab (b.2.2.2.2.1, b.2.2.2.2.2.1) (b.2.2.1.length : Int) && pCounts b)))))
structure BWf (b : Bridge) : Prop where
  p : b.2.2.1.length < 9223372036854775807
  f : b.2.2.2.1.length < 9223372036854775807
  v : b.2.2.2.2.1.length < 9223372036854775807
  q : b.2.2.2.2.2.1.length < 9223372036854775807
  r : ∀ r ∈ b.2.2.2.2.1, -9223372036854775808 ≤ r.2.2 ∧ r.2.2 ≤ 9223372036854775807
set_option linter.unusedVariables false
set_option linter.unusedSimpArgs false
theorem lessS : spec_LessVec = impl_LessVec := rfl
theorem lessT (a b : Vec) : ∃ r, impl_LessVec a b = some r := by
  unfold impl_LessVec
  cases (a.1 != b.1) <;> cases (a.2.1 != b.2.1) <;> cases (a.2.2.2.1 != b.2.2.2.1) <;> exact ⟨_, rfl⟩
theorem stepS : spec_StepVec = impl_StepVec := rfl
theorem stepT (v : Vec) (c : Int) : ∃ r, impl_StepVec v c = some r := by
  unfold impl_StepVec
  simp only [vecT, inT, Option.bind_some]
  cases pVec v <;> cases pIn c 1 1000 <;> first | exact ⟨_, rfl⟩ | skip
  generalize pVec (v.1, w64 (v.2.1 + c), w64 (v.2.2.1 + 1), v.2.2.2.1, v.2.2.2.2) = q
  cases q <;> exact ⟨_, rfl⟩
theorem bestL (p0 : Int) (l : List Pt) (t8 t9 b0 b1 b2 b3 b4 c0 c1 c2 c3 c4 : Int) : spec_BestVec_l0 p0 l t8 t9 b0 b1 b2 b3 b4 c0 c1 c2 c3 c4 = impl_BestVec_l0 p0 l t8 t9 b0 b1 b2 b3 b4 c0 c1 c2 c3 c4 := by
  unfold spec_BestVec_l0 impl_BestVec_l0
  rw [stepS, lessS]
  cases h : at? l t9 with
  | none => rfl
  | some x => simp only [Option.bind_some]
theorem bestS : spec_BestVec = impl_BestVec := by
  funext p0 l
  unfold spec_BestVec impl_BestVec
  rw [loop_ext (fun z => bestL p0 l _ _ _ _ _ _ _ _ _ _ _ _)]
theorem bestT (p0 : Int) {l : List Pt} (hn : l.length < 9223372036854775807) : ∃ r, impl_BestVec p0 l = some r := by
  unfold impl_BestVec
  obtain ⟨b, h1, _⟩ := loop_inv (step := fun z : Int × Int × Int × Int × Int × Int × Int × Int × Int × Int × Int × Int => impl_BestVec_l0 p0 l z.1 z.2.1 z.2.2.1 z.2.2.2.1 z.2.2.2.2.1 z.2.2.2.2.2.1 z.2.2.2.2.2.2.1 z.2.2.2.2.2.2.2.1 z.2.2.2.2.2.2.2.2.1 z.2.2.2.2.2.2.2.2.2.1 z.2.2.2.2.2.2.2.2.2.2.1 z.2.2.2.2.2.2.2.2.2.2.2)
    (fun k z => z.2.1 = (k : Int)) l.length (fun _ => True)
    (fun k z hk h => by
      left
      obtain ⟨t7, t18, b0, b1, b2, b3, b4, c0, c1, c2, c3, c4⟩ := z
      obtain rfl : t18 = (k : Int) := h
      unfold impl_BestVec_l0
      simp only [dlt (show (k : Int) < (l.length : Int) by omega), cond_true, at_nat hk, Option.bind_some]
      rw [show w64 ((k : Int) + 1) = ((k + 1 : Nat) : Int) from w64_nat (by omega)]
      generalize l[k] = x
      have e : (cond (!x.1) (some true) (some (!x.2.2.1)) : Option Bool) = some (cond (!x.1) true (!x.2.2.1)) := by cases x.1 <;> rfl
      rw [e, Option.bind_some]
      cases (cond (!x.1) true (!x.2.2.1)) with
      | true => exact ⟨_, rfl, rfl⟩
      | false =>
        obtain ⟨r, hr⟩ := stepT x.2.2.2 x.2.1
        obtain ⟨q, hq⟩ := lessT r.1 (c0, c1, c2, c3, c4)
        rw [cond_false, hr, Option.bind_some, hq]
        cases r.2 <;> cases decide (r.1.1 < p0) <;> cases decide (t7 < 0) <;> cases q <;> exact ⟨_, rfl, rfl⟩)
    (fun z h => by
      obtain ⟨t7, t18, b0, b1, b2, b3, b4, c0, c1, c2, c3, c4⟩ := z
      obtain rfl : t18 = (l.length : Int) := h
      unfold impl_BestVec_l0
      simp only [dnlt (show ¬ (l.length : Int) < (l.length : Int) by omega), cond_false]
      exact ⟨_, rfl, trivial⟩) (x := ((-1), 0, p0, 0, 0, p0, 0, 0, 0, 0, 0, 0)) rfl
  rw [h1, Option.bind_some]
  exact ⟨_, rfl⟩
theorem sayS : spec_SayVec = impl_SayVec := by
  funext id l p
  unfold spec_SayVec impl_SayVec
  rw [bestS]
theorem roleS : spec_RoleOf = impl_RoleOf := by
  funext id l p
  unfold spec_RoleOf impl_RoleOf
  rw [bestS, sayS, lessS]
  rfl
theorem roleT (id : Int) {l : List Pt} (hn : l.length < 9223372036854775807) (p : Int) : ∃ r, impl_RoleOf id l p = some r := by
  obtain ⟨v, hv⟩ := bestT id hn
  unfold impl_RoleOf impl_SayVec
  simp only [inT, Option.bind_some, hv]
  rw [show w64 ((l.length : Int) - 1) = (l.length : Int) - 1 from w64_id (by omega) (by omega)]
  cases hp : pIn p 0 ((l.length : Int) - 1) with
  | false => exact ⟨_, rfl⟩
  | true =>
    unfold pIn at hp
    simp only [Bool.and_eq_true, decide_eq_true_eq] at hp
    obtain ⟨k, rfl⟩ : ∃ k : Nat, p = (k : Int) := ⟨p.toNat, by omega⟩
    simp only [at_nat (show k < l.length by omega), Option.bind_some]
    generalize l[k]'(by omega) = x
    obtain ⟨q, hq⟩ := lessT (v.1.1, v.1.2.1, v.1.2.2.1, v.1.2.2.2.1, (k : Int)) x.2.2.2
    rw [hq]
    cases x.1 <;> cases (v.2 == (k : Int)) <;> cases x.2.2.1 <;> cases q <;> exact ⟨_, rfl⟩
set_option linter.unusedVariables false
set_option linter.unusedSimpArgs false
set_option linter.unusedVariables false
set_option linter.unusedSimpArgs false
theorem app_big {α : Type} {xs ys : List α} (h : xs.length + ys.length ≤ 4294967296) : app xs ys = some (xs ++ ys) := by
  unfold app
  rw [if_pos (show xs.length + ys.length ≤ maxN from h)]
noncomputable def roleV (id : Int) (l : List Pt) (p : Int) : Int := (impl_RoleOf id l p).getD 0
theorem roleV_eq (id : Int) {l : List Pt} (hn : l.length < 9223372036854775807) (p : Int) : impl_RoleOf id l p = some (roleV id l p) := by
  obtain ⟨r, hr⟩ := roleT id hn p
  unfold roleV; rw [hr]; rfl
set_option linter.unusedVariables false
set_option linter.unusedSimpArgs false
def hasB (l : List Int) (x : Int) : Bool := decide (x ∈ l)
def those (b : Nat → Bool) (m : Nat) : List Int := ((List.range m).filter b).map fun (k : Nat) => (k : Int)
theorem those_le (b : Nat → Bool) (m : Nat) : (those b m).length ≤ m := by
  unfold those
  rw [List.length_map]
  exact Nat.le_trans (List.length_filter_le _ _) (by simp)
theorem those_succ (b : Nat → Bool) (m : Nat) : those b (m + 1) = cond (b m) (those b m ++ [(m : Int)]) (those b m) := by
  unfold those
  rw [List.range_succ, List.filter_append, List.map_append]
  cases h : b m <;> simp [h]
theorem collect {n : Nat} {c : Int → Option Bool} {b : Nat → Bool} (hn : n ≤ 1048576) (hc : ∀ k, k < n → c (k : Int) = some (b k)) :
    loop (fun z : Int × List Int => cond (decide (z.1 < (n : Int))) ((c z.1).bind fun t => cond t ((app z.2 [z.1]).bind fun zs => some (.inl (w64 (z.1 + 1), zs))) (some (.inl (w64 (z.1 + 1), z.2)))) (some (.inr z.2))) (0, ([] : List Int)) = some (those b n) := by
  obtain ⟨v, h1, rfl⟩ := loop_inv (step := fun z : Int × List Int => cond (decide (z.1 < (n : Int))) ((c z.1).bind fun t => cond t ((app z.2 [z.1]).bind fun zs => some (.inl (w64 (z.1 + 1), zs))) (some (.inl (w64 (z.1 + 1), z.2)))) (some (.inr z.2))) (fun k z => z.1 = (k : Int) ∧ z.2 = those b k) n (fun l => l = those b n)
    (fun k z hk ⟨e1, e2⟩ => by
      obtain ⟨i, l⟩ := z
      simp only at e1 e2
      subst e1 e2
      left
      have hle := those_le b k
      refine ⟨(w64 ((k : Int) + 1), those b (k + 1)), ?_, w64_nat (by omega), rfl⟩
      simp only [dlt (show (k : Int) < (n : Int) by omega), cond_true, hc k hk, Option.bind_some]
      rw [those_succ]
      cases b k with
      | false => rfl
      | true => rw [cond_true, app_big (by simp; omega)]; rfl)
    (fun z ⟨e1, e2⟩ => by
      obtain ⟨i, l⟩ := z
      simp only at e1 e2
      subst e1 e2
      exact ⟨_, by simp only [dnlt (show ¬ (n : Int) < (n : Int) by omega), cond_false], rfl⟩) (x := (0, [])) ⟨rfl, rfl⟩
  exact h1
def cnt (l : List Bool) : Nat := l.count true
theorem cnt_le (l : List Bool) : cnt l ≤ l.length := List.count_le_length
theorem cnt_set {l : List Bool} {i : Nat} (h : l[i]? = some false) : cnt (l.set i true) = cnt l + 1 := by
  obtain ⟨hi, he⟩ := List.getElem?_eq_some_iff.1 h
  unfold cnt
  rw [List.count_set hi, he]
  simp
theorem in_nat {n : Nat} {i : Int} (h : pIn i 0 ((n : Int) - 1) = true) : ∃ k : Nat, k < n ∧ i = (k : Int) := by
  unfold pIn at h
  simp only [Bool.and_eq_true, decide_eq_true_eq] at h
  exact ⟨i.toNat, by omega, by omega⟩
theorem nat_in {n k : Nat} (h : k < n) : pIn (k : Int) 0 ((n : Int) - 1) = true := by
  unfold pIn
  rw [decide_eq_true (by omega), decide_eq_true (by omega)]; rfl
set_option linter.unusedVariables false
set_option linter.unusedSimpArgs false
structure Rel (X : List Int) (l : List Bool) : Prop where
  r : ∀ x ∈ X, ∃ k : Nat, k < l.length ∧ x = (k : Int)
  m : ∀ k, k < l.length → l[k]? = some (hasB X (k : Int))
  c : X.length = cnt l
theorem Rel.len {X : List Int} {l : List Bool} (h : Rel X l) : X.length ≤ l.length := by rw [h.c]; exact cnt_le l
theorem Rel.add {X : List Int} {l : List Bool} (h : Rel X l) {i : Nat} (hi : l[i]? = some false) : Rel (X ++ [(i : Int)]) (l.set i true) := by
  obtain ⟨hi', he⟩ := List.getElem?_eq_some_iff.1 hi
  refine ⟨fun x hx => ?_, fun k hk => ?_, ?_⟩
  · rw [List.length_set]
    rcases List.mem_append.1 hx with hx | hx
    · exact h.r x hx
    · simp at hx; exact ⟨i, hi', hx⟩
  · rw [List.length_set] at hk
    rw [List.getElem?_set]
    split
    · rename_i e
      subst e
      rw [show hasB (X ++ [(i : Int)]) (i : Int) = true from decide_eq_true (by simp)]
    · rename_i e
      rw [h.m k hk]
      congr 1
      unfold hasB
      apply decide_eq_decide.2
      rw [List.mem_append, List.mem_singleton]
      constructor
      · exact .inl
      · rintro (h | h)
        · exact h
        · omega
  · rw [List.length_append, cnt_set hi, h.c]; rfl
theorem Rel.in {X : List Int} {l : List Bool} (h : Rel X l) {x : Int} (hx : hasB X x = true) : pIn x 0 ((l.length : Int) - 1) = true := by
  obtain ⟨k, hk, rfl⟩ := h.r x (of_decide_eq_true hx)
  exact nat_in hk
def start (n : Nat) (b : Nat) : List Bool := (List.replicate n false).set b true
set_option linter.unusedVariables false
set_option linter.unusedSimpArgs false
set_option linter.unusedVariables false
set_option linter.unusedSimpArgs false
structure CW (c : L1Cur) : Prop where
  p : 0 ≤ c.2.1
  n : c.1.length < 9223372036854775807
theorem band255 (x : Int) : 0 ≤ band .i64 x 255 ∧ band .i64 x 255 ≤ 255 := by
  rw [bandT]
  have h1 : (BitVec.ofInt 64 x &&& BitVec.ofInt 64 255).toNat ≤ 255 := by
    rw [BitVec.toNat_and]
    exact Nat.le_trans Nat.and_le_right (by decide)
  rw [BitVec.toInt_eq_toNat_cond]
  split <;> omega
theorem byteD {c : L1Cur} (h : CW c) : ∃ c' r, spec_l1Byte c = some (c', r) ∧ CW c' ∧ 0 ≤ r ∧ r ≤ 255 := by
  unfold spec_l1Byte
  have hn := h.n
  have hp := h.p
  by_cases hlt : c.2.1 < (c.1.length : Int)
  · obtain ⟨k, hk⟩ : ∃ k : Nat, c.2.1 = (k : Int) := ⟨c.2.1.toNat, by omega⟩
    simp only [dlt hlt, cond_true]
    rw [hk, at_nat (by omega), Option.bind_some, w64_nat (by omega)]
    exact ⟨_, _, rfl, ⟨by show (0 : Int) ≤ ((k + 1 : Nat) : Int); omega, hn⟩, band255 _⟩
  · simp only [dnlt hlt, cond_false]
    exact ⟨_, _, rfl, ⟨hp, hn⟩, band255 _⟩
theorem rem_pos {a n : Int} (ha : 0 ≤ a) (hn : 1 ≤ n) : ∃ r, rem a n = some r ∧ 0 ≤ r ∧ r < n := by
  unfold rem
  rw [if_neg (by omega)]
  refine ⟨_, rfl, Int.tmod_nonneg _ ha, ?_⟩
  have := Int.tmod_lt_of_pos a (show 0 < n by omega)
  exact this
theorem belowD {c : L1Cur} (h : CW c) (n : Int) : ∃ c' r, spec_l1Below c n = some (c', r) ∧ CW c' ∧ 0 ≤ r ∧ (1 ≤ n → r < n) := by
  unfold spec_l1Below
  by_cases h0 : n ≤ 0
  · rw [decide_eq_true h0]
    exact ⟨_, _, rfl, h, Int.le_refl 0, fun h => by omega⟩
  · rw [decide_eq_false h0, cond_false]
    by_cases h1 : n ≤ 256
    · rw [decide_eq_true h1, cond_true]
      obtain ⟨c1, r1, e1, w1, a1, b1⟩ := byteD h
      obtain ⟨r, e, a, b⟩ := rem_pos (n := n) a1 (by omega)
      rw [e1, Option.bind_some, e, Option.bind_some]
      exact ⟨_, _, rfl, w1, a, fun _ => b⟩
    · rw [decide_eq_false h1, cond_false]
      obtain ⟨c1, r1, e1, w1, a1, b1⟩ := byteD h
      obtain ⟨c2, r2, e2, w2, a2, b2⟩ := byteD w1
      obtain ⟨c3, r3, e3, w3, a3, b3⟩ := byteD w2
      rw [e1, Option.bind_some, e2, Option.bind_some, e3, Option.bind_some]
      show ∃ c' r, ((rem (w64 (w64 (w64 (r1 * 65536) + w64 (r2 * 256)) + r3)) n).bind _) = _ ∧ _
      rw [w64_id (n := r1 * 65536) (by omega) (by omega), w64_id (n := r2 * 256) (by omega) (by omega), w64_id (n := r1 * 65536 + r2 * 256) (by omega) (by omega), w64_id (n := r1 * 65536 + r2 * 256 + r3) (by omega) (by omega)]
      obtain ⟨r, e, a, b⟩ := rem_pos (a := r1 * 65536 + r2 * 256 + r3) (n := n) (by omega) (by omega)
      rw [e, Option.bind_some]
      exact ⟨_, _, rfl, w3, a, fun _ => b⟩
theorem belowN {c : L1Cur} (h : CW c) {n : Nat} (hn : 1 ≤ n) : ∃ c' k, spec_l1Below c (n : Int) = some (c', ((k : Nat) : Int)) ∧ CW c' ∧ k < n := by
  obtain ⟨c', r, e, w, a, b⟩ := belowD h (n : Int)
  have b := b (by omega)
  exact ⟨c', r.toNat, by rw [e]; congr 2; omega, w, by omega⟩
theorem onceD {c : L1Cur} (h : CW c) (n : Int) : ∃ c' r, spec_l1Once c n = some (c', r) ∧ CW c' := by
  obtain ⟨c', r, e, w, _⟩ := belowD h n
  unfold spec_l1Once
  rw [e, Option.bind_some]
  exact ⟨_, _, rfl, w⟩
theorem intD {c : L1Cur} (h : CW c) {l : List Int} (hl : 1 ≤ l.length) : ∃ c' x, spec_l1Int c l = some (c', x) ∧ CW c' ∧ x ∈ l := by
  obtain ⟨c', k, e, w, b⟩ := belowN h hl
  unfold spec_l1Int
  rw [e, Option.bind_some]
  show ∃ c'' x, (at? l (k : Int)).bind _ = _ ∧ _
  rw [at_nat b, Option.bind_some]
  exact ⟨_, _, rfl, w, List.getElem_mem b⟩
theorem strD {c : L1Cur} (h : CW c) {l : List (List UInt8)} (hl : 1 ≤ l.length) : ∃ c' x, spec_l1Str c l = some (c', x) ∧ CW c' ∧ x ∈ l := by
  obtain ⟨c', k, e, w, b⟩ := belowN h hl
  unfold spec_l1Str
  rw [e, Option.bind_some]
  show ∃ c'' x, (at? l (k : Int)).bind _ = _ ∧ _
  rw [at_nat b, Option.bind_some]
  exact ⟨_, _, rfl, w, List.getElem_mem b⟩
theorem newD {code : List Int} (h : code.length ≤ 1048576) : ∃ c, spec_l1New code = some c ∧ CW c := by
  obtain ⟨v, h1, -⟩ := loop_inv (step := fun z : Int × Int => spec_l1New_l0 code z.1 z.2) (fun k z => z.2 = (k : Int)) (min code.length 4000) (fun _ => True)
    (fun k z hk e => by
      obtain ⟨x, i⟩ := z
      simp only at e
      subst e
      left
      have k4 : k < 4000 := by omega
      have hs : ∃ y, spec_l1New_l0 code x (k : Int) = some (.inl (y, ((k + 1 : Nat) : Int))) := by
        unfold spec_l1New_l0
        rw [dlt (show (k : Int) < (code.length : Int) by omega), dlt (show (k : Int) < 4000 by omega), cond_true, Option.bind_some, cond_true, at_nat (by omega), Option.bind_some, w64_nat (by omega)]
        exact ⟨_, rfl⟩
      obtain ⟨y, hs⟩ := hs
      exact ⟨_, hs, rfl⟩)
    (fun z e => by
      obtain ⟨x, i⟩ := z
      simp only at e
      subst e
      refine ⟨x, ?_, trivial⟩
      show spec_l1New_l0 code x _ = _
      unfold spec_l1New_l0
      by_cases h : code.length ≤ 4000
      · rw [Nat.min_eq_left h, dnlt (by omega)]; rfl
      · rw [Nat.min_eq_right (by omega), dlt (by omega), dnlt (show ¬ (((4000 : Nat) : Int) < 4000) by omega)]; rfl) (x := (w64 (762762 + (code.length : Int)), 0)) rfl
  unfold spec_l1New
  show ∃ c, (loop (fun z => spec_l1New_l0 code z.1 z.2) (w64 (762762 + (code.length : Int)), 0)).bind (fun d => some (code, 0, d)) = some c ∧ CW c
  rw [h1, Option.bind_some]
  exact ⟨_, rfl, by show (0 : Int) ≤ 0; omega, by show code.length < _; omega⟩

set_option linter.unusedVariables false
set_option linter.unusedSimpArgs false
abbrev I64 (x : Int) : Prop := -9223372036854775808 ≤ x ∧ x ≤ 9223372036854775807
structure VT (v : Vtab) (n : Nat) : Prop where
  p : pVtab v (n : Int) = true
  r : ∀ r ∈ v.1, I64 r.2.2
theorem VT.len {v : Vtab} {n : Nat} (h : VT v n) : 1 ≤ n ∧ n ≤ 6 ∧ v.2.length = n ∧ v.1.length ≤ 6 := by
  have hp := h.p
  unfold pVtab pIn at hp
  simp only [Bool.and_eq_true, Bool.not_eq_true', Bool.or_eq_false_iff, Bool.not_eq_false', Bool.and_eq_true, decide_eq_true_eq, decide_eq_false_iff_not, bne_eq_false_iff_eq] at hp
  obtain ⟨⟨h1, h2, h3⟩, _⟩ := hp
  omega
theorem vtS {v : Vtab} (n : Int) (h1 : v.1.length ≤ 1000) (h2 : v.2.length ≤ 1000) (hr : ∀ r ∈ v.1, I64 r.2.2) : spec_VtabOk v n = some (pVtab v n) := vtabS n (by omega) (by omega) hr
theorem copyV {v : Vtab} (h1 : v.1.length ≤ 1000) (h2 : v.2.length ≤ 1000) : spec_l9Copy v = some v := by
  unfold spec_l9Copy
  unfold app
  have m : (maxN : Nat) = 4294967296 := rfl
  rw [if_pos (by show 0 + v.1.length ≤ maxN; omega), Option.bind_some, if_pos (by show 0 + v.2.length ≤ maxN; omega), Option.bind_some]
  rfl
theorem orV {x v : Vtab} {n : Nat} (hv : VT v n) (h1 : x.1.length ≤ 1000) (h2 : x.2.length ≤ 1000) (hr : ∀ r ∈ x.1, I64 r.2.2) : ∃ y ok, spec_l9Or x v = some (y, ok) ∧ VT y n := by
  obtain ⟨l1, l2, l3, l4⟩ := hv.len
  unfold spec_l9Or
  rw [vtS _ h1 h2 hr, Option.bind_some]
  cases h : pVtab x (v.2.length : Int) with
  | true => exact ⟨_, _, rfl, by rw [l3] at h; exact h, hr⟩
  | false =>
    rw [Bool.not_false, cond_true, copyV (by omega) (by omega), Option.bind_some]
    exact ⟨_, _, rfl, hv⟩
theorem okV {v : Vtab} {n : Nat} (hv : VT v n) : spec_VtabOk v (v.2.length : Int) = some true := by
  obtain ⟨l1, l2, l3, l4⟩ := hv.len
  rw [vtS _ (by omega) (by omega) hv.r, l3, hv.p]
theorem pvidV {v : Vtab} {n : Nat} (hv : VT v n) (port id : Int) : ∃ y ok, spec_SetPvid v port id = some (y, ok) ∧ VT y n := by
  obtain ⟨l1, l2, l3, l4⟩ := hv.len
  unfold spec_SetPvid
  rw [okV hv, Option.bind_some, Bool.not_true, cond_false, inS, Option.bind_some, Option.bind_some, copyV (by omega) (by omega), w64_id (n := (v.2.length : Int) - 1) (by omega) (by omega)]
  cases hin : pIn port 0 ((v.2.length : Int) - 1) with
  | false => exact ⟨_, _, rfl, hv⟩
  | true =>
    obtain ⟨k, hk, rfl⟩ := in_nat hin
    simp only [Bool.not_true, cond_false, Option.bind_some, ix_nat hk, List.getElem?_eq_getElem hk]
    obtain ⟨y, ok, e, hy⟩ := orV (x := (v.1, v.2.set k id)) hv (by show v.1.length ≤ _; omega) (by show (v.2.set k id).length ≤ _; rw [List.length_set]; omega) hv.r
    rw [e]
    exact ⟨_, _, rfl, hy⟩
theorem rowAtL {v : Vtab} (hn : v.1.length < 9223372036854775807) (id : Int) : ∃ r, spec_RowAt v id = some r ∧ (r = -1 ∨ ∃ k : Nat, k < v.1.length ∧ r = (k : Int)) := by
  rw [rowAtS]
  unfold impl_RowAt
  obtain ⟨b, h1, h2⟩ := loop_inv (β := Unit ⊕ Int) (step := fun z => impl_RowAt_l0 v id z) (fun k i => i = (k : Int)) v.1.length (fun b => ∀ r, b = .inr r → ∃ k : Nat, k < v.1.length ∧ r = (k : Int))
    (fun k i hk h => by
      subst h
      unfold impl_RowAt_l0
      rw [dlt (by omega), cond_true, at_nat hk, Option.bind_some]
      cases (v.1[k].1 == id) with
      | true => exact .inr ⟨_, rfl, fun r hr => ⟨k, hk, by cases hr; rfl⟩⟩
      | false => exact .inl ⟨_, rfl, w64_nat (by omega)⟩)
    (fun i h => by
      subst h
      unfold impl_RowAt_l0
      rw [dnlt (by omega)]
      exact ⟨_, rfl, fun r hr => by cases hr⟩) (x := 0) rfl
  rw [h1, Option.bind_some]
  cases b with
  | inl _ => exact ⟨_, rfl, .inl rfl⟩
  | inr r => exact ⟨r, rfl, .inr (h2 r rfl)⟩
theorem cut_ok {α : Type} {l : List α} {a b : Nat} (h1 : a ≤ b) (h2 : b ≤ l.length) : cut l (a : Int) (b : Int) = some ((l.take b).drop a) := by
  unfold cut
  rw [if_pos (by omega), if_pos (by omega), if_pos (by omega)]; simp
theorem app_small {α : Type} {xs ys : List α} (h : xs.length + ys.length ≤ 4294967296) : app xs ys = some (xs ++ ys) := by
  unfold app
  rw [if_pos (show xs.length + ys.length ≤ maxN from h)]
theorem dropV {v : Vtab} {n : Nat} (hv : VT v n) (id : Int) : ∃ y ok, spec_DropRow v id = some (y, ok) ∧ VT y n := by
  obtain ⟨l1, l2, l3, l4⟩ := hv.len
  obtain ⟨r, hr, hr2⟩ := rowAtL (v := v) (by omega) id
  unfold spec_DropRow
  rw [hr, Option.bind_some, okV hv, Option.bind_some, Bool.not_true, cond_false, copyV (by omega) (by omega), Option.bind_some, Option.bind_some, Option.bind_some]
  rcases hr2 with rfl | ⟨k, hk, rfl⟩
  · exact ⟨_, _, rfl, hv⟩
  · rw [dnlt (by omega), cond_false, show (0 : Int) = ((0 : Nat) : Int) from rfl, cut_ok (by omega) (by omega), Option.bind_some, w64_nat (by omega), cut_ok (by omega) (by omega)]
    have t1 : ((v.1.take k).drop 0).length ≤ 6 := by simp; omega
    have t2 : ((v.1.take v.1.length).drop (k + 1)).length ≤ 6 := by simp; omega
    rw [app_small (by show 0 + _ ≤ _; omega), Option.bind_some, Option.bind_some, List.nil_append, app_small (by omega), Option.bind_some]
    obtain ⟨y, ok, e, hy⟩ := orV (x := ((v.1.take k).drop 0 ++ (v.1.take v.1.length).drop (k + 1), v.2)) hv (by show ((v.1.take k).drop 0 ++ (v.1.take v.1.length).drop (k + 1)).length ≤ _; rw [List.length_append]; omega) (by show v.2.length ≤ _; omega) (fun r hr => by
      rcases List.mem_append.1 hr with hr | hr
      · exact hv.r r (List.mem_of_mem_take (List.mem_of_mem_drop hr))
      · exact hv.r r (List.mem_of_mem_take (List.mem_of_mem_drop hr)))
    rw [e]
    exact ⟨_, _, rfl, hy⟩
theorem rowV {v : Vtab} {n : Nat} (hv : VT v n) {r : Vrow} (hr : I64 r.2.2) : ∃ y, spec_l9Row v r = some y ∧ y.1.length ≤ 1000 ∧ y.2.length ≤ 1000 ∧ ∀ r ∈ y.1, I64 r.2.2 := by
  obtain ⟨l1, l2, l3, l4⟩ := hv.len
  obtain ⟨d, h1, h2, h3⟩ := loop_inv (step := fun z : Bool × Int × List Vrow => spec_l9Row_l0 v r z.1 z.2.1 z.2.2) (fun k z => z.2.1 = (k : Int) ∧ z.2.2.length ≤ 2 * k ∧ ∀ x ∈ z.2.2, I64 x.2.2) v.1.length (fun d => d.2.length ≤ 12 ∧ ∀ x ∈ d.2, I64 x.2.2)
    (fun k z hk ⟨e1, e2, e3⟩ => by
      obtain ⟨t, i, b⟩ := z
      simp only at e1 e2 e3
      subst e1
      left
      have hvk : I64 v.1[k].2.2 := hv.r _ (List.getElem_mem hk)
      show ∃ y, spec_l9Row_l0 v r t (k : Int) b = _ ∧ _
      unfold spec_l9Row_l0
      simp only [dlt (show (k : Int) < (v.1.length : Int) by omega), cond_true, at_nat hk, Option.bind_some, w64_nat (show k < 9223372036854775807 by omega), Int.not_lt]
      have ha : ∀ (xs : List Vrow) (y : Vrow), xs.length ≤ 100 → app xs [y] = some (xs ++ [y]) := fun xs y h => app_small (by show xs.length + 1 ≤ _; omega)
      have key : ∀ (tt : Bool), ((cond (!t) (some (decide (v.1[k].1 ≥ r.1))) (some false)) = some tt → ∃ y : Bool × Int × List Vrow, (cond tt ((app b [r]).bind fun zs37 => cond (v.1[k].1 != r.1) ((app zs37 [v.1[k]]).bind fun zs56 => some (.inl (true, ((k + 1 : Nat) : Int), zs56))) (some (.inl (true, ((k + 1 : Nat) : Int), zs37)))) (cond (v.1[k].1 != r.1) ((app b [v.1[k]]).bind fun zs56_1 => some (.inl (t, ((k + 1 : Nat) : Int), zs56_1))) (some (.inl (t, ((k + 1 : Nat) : Int), b)))) : Option ((Bool × Int × List Vrow) ⊕ (Bool × List Vrow))) = some (.inl y) ∧ y.2.1 = ((k + 1 : Nat) : Int) ∧ y.2.2.length ≤ 2 * (k + 1) ∧ ∀ x ∈ y.2.2, I64 x.2.2) := by
        intro tt _
        cases tt with
        | true =>
          rw [cond_true, ha b r (by omega), Option.bind_some]
          cases v.1[k].1 != r.1 with
          | true =>
            rw [cond_true, ha (b ++ [r]) _ (by simp; omega), Option.bind_some]
            refine ⟨_, rfl, rfl, by simp; omega, fun x hx => ?_⟩
            simp at hx
            rcases hx with hx | rfl | rfl
            · exact e3 x hx
            · exact hr
            · exact hvk
          | false =>
            refine ⟨_, rfl, rfl, by simp; omega, fun x hx => ?_⟩
            simp at hx
            rcases hx with hx | rfl
            · exact e3 x hx
            · exact hr
        | false =>
          rw [cond_false]
          cases v.1[k].1 != r.1 with
          | true =>
            rw [cond_true, ha b _ (by omega), Option.bind_some]
            refine ⟨_, rfl, rfl, by simp; omega, fun x hx => ?_⟩
            simp at hx
            rcases hx with hx | rfl
            · exact e3 x hx
            · exact hvk
          | false => exact ⟨_, rfl, rfl, by show b.length ≤ _; omega, e3⟩
      cases ht : (cond (!t) (some (decide (v.1[k].1 ≥ r.1))) (some false)) with
      | none => cases t <;> cases ht
      | some tt =>
        rw [Option.bind_some]
        exact key tt ht)
    (fun z ⟨e1, e2, e3⟩ => by
      obtain ⟨t, i, b⟩ := z
      simp only at e1 e2 e3
      subst e1
      refine ⟨(t, b), ?_, by show b.length ≤ 12; omega, e3⟩
      show spec_l9Row_l0 v r t _ b = _
      unfold spec_l9Row_l0
      rw [dnlt (by omega), cond_false]) (x := (false, 0, [])) ⟨rfl, by simp, fun x hx => absurd hx List.not_mem_nil⟩
  unfold spec_l9Row
  rw [app_small (by show 0 + v.2.length ≤ _; omega), Option.bind_some, h1, Option.bind_some, List.nil_append]
  cases d.1 with
  | true => exact ⟨_, rfl, by show d.2.length ≤ _; omega, by show v.2.length ≤ _; omega, h3⟩
  | false =>
    rw [Bool.not_false, cond_true, app_small (by show d.2.length + 1 ≤ _; omega), Option.bind_some]
    refine ⟨_, rfl, by show (d.2 ++ [r]).length ≤ _; simp; omega, by show v.2.length ≤ _; omega, fun x hx => ?_⟩
    have hx : x ∈ d.2 ++ [r] := hx
    simp at hx
    rcases hx with hx | rfl
    · exact h3 x hx
    · exact hr
theorem putV {v : Vtab} {n : Nat} (hv : VT v n) {r : Vrow} (hr : I64 r.2.2) : ∃ y ok, spec_PutRow v r = some (y, ok) ∧ VT y n := by
  obtain ⟨x, hx, h1, h2, h3⟩ := rowV hv hr
  unfold spec_PutRow
  rw [okV hv, Option.bind_some, Bool.not_true, cond_false, hx, Option.bind_some]
  obtain ⟨y, ok, e, hy⟩ := orV hv h1 h2 h3
  rw [e]
  exact ⟨_, _, rfl, hy⟩
theorem bandI (a b : Int) : I64 (band .i64 a b) := by
  rw [bandT]
  have h1 := BitVec.toInt_lt (x := BitVec.ofInt 64 a &&& BitVec.ofInt 64 b)
  have h2 := BitVec.le_toInt (x := BitVec.ofInt 64 a &&& BitVec.ofInt 64 b)
  exact ⟨by omega, by omega⟩
theorem row2D {c : L1Cur} (h : CW c) {n : Nat} (h1 : 1 ≤ n) (h6 : n ≤ 6) : ∃ c' r, spec_l9Row2 c (n : Int) = some (c', r) ∧ CW c' ∧ I64 r.2.2 := by
  obtain ⟨t, ht, _⟩ := shlS (i := (n : Int)) (by unfold pIn; rw [decide_eq_true (by omega), decide_eq_true (by omega)]; rfl)
  unfold spec_l9Row2
  rw [ht, Option.bind_some]
  obtain ⟨c1, r1, e1, w1, _⟩ := belowD h (w64 ((w64 (t - 1)) + 1))
  obtain ⟨c2, r2, e2, w2, _⟩ := intD w1 (l := [1, 2, 3, 2]) (by decide)
  obtain ⟨c3, r3, e3, w3, _⟩ := belowD w2 (w64 ((w64 (t - 1)) + 1))
  rw [e1, Option.bind_some, e2, Option.bind_some, e3, Option.bind_some]
  exact ⟨_, _, rfl, w3, bandI _ _⟩

set_option linter.unusedVariables false
set_option linter.unusedSimpArgs false
theorem newV {n : Nat} (h1 : 1 ≤ n) (h6 : n ≤ 6) : spec_VtabNew (n : Int) = some ([(1, pTop (n : Int), pTop (n : Int))], List.replicate n 1) := by
  have hin : pIn (n : Int) 1 6 = true := by unfold pIn; rw [decide_eq_true (by omega), decide_eq_true (by omega)]; rfl
  obtain ⟨t, ht, ht2⟩ := shlS hin
  obtain ⟨d, hd, rfl⟩ := loop_inv (step := fun z : Int × List Int => spec_VtabNew_l0 (n : Int) z.1 z.2) (fun k z => z.1 = (k : Int) ∧ z.2 = List.replicate k 1) n (fun d => d = List.replicate n 1)
    (fun k z hk ⟨e1, e2⟩ => by
      obtain ⟨i, l⟩ := z
      simp only at e1 e2
      subst e1 e2
      left
      refine ⟨(((k + 1 : Nat) : Int), List.replicate k 1 ++ [1]), ?_, rfl, ?_⟩
      · show spec_VtabNew_l0 (n : Int) (k : Int) _ = _
        unfold spec_VtabNew_l0
        rw [dlt (by omega), cond_true, app_small (by simp; omega), Option.bind_some, w64_nat (by omega)]
      · show List.replicate k 1 ++ [1] = _
        rw [← List.replicate_succ'])
    (fun z ⟨e1, e2⟩ => by
      obtain ⟨i, l⟩ := z
      simp only at e1 e2
      subst e1 e2
      refine ⟨_, ?_, rfl⟩
      show spec_VtabNew_l0 (n : Int) _ _ = _
      unfold spec_VtabNew_l0
      rw [dnlt (by omega), cond_false]) (x := (0, [])) ⟨rfl, rfl⟩
  unfold spec_VtabNew
  rw [inS, Option.bind_some, hin, Bool.not_true, cond_false, ht, Option.bind_some, hd, Option.bind_some, ht2]
theorem newVT {n : Nat} (h1 : 1 ≤ n) (h6 : n ≤ 6) : VT ([(1, pTop (n : Int), pTop (n : Int))], List.replicate n 1) n := by
  have hin : pIn (n : Int) 1 6 = true := by unfold pIn; rw [decide_eq_true (by omega), decide_eq_true (by omega)]; rfl
  have ht := topLe hin
  have hrow : impl_RowAt ([(1, pTop (n : Int), pTop (n : Int))], List.replicate n 1) 1 = some 0 := by
    unfold impl_RowAt
    rw [loop_of (k := 1) (b := .inr 0) (by rfl)]
    rfl
  have hb : (bclr .i64 (pTop (n : Int)) (pTop (n : Int)) != 0) = false := by
    rcases range6 hin with h | h | h | h | h | h <;> rw [h] <;> decide
  refine ⟨?_, fun r hr => ?_⟩
  · unfold pVtab
    rw [hin]
    show (!(!true || (((List.replicate n (1 : Int)).length : Int) != (n : Int) || decide ((1 : Int) > 6))) && (!(List.range 1).any _ && !(List.range (List.replicate n (1 : Int)).length).any _)) = true
    rw [List.length_replicate]
    have e1 : (((n : Int)) != (n : Int)) = false := by simp
    rw [e1]
    have e2 : (List.range 1).any (bRow ([(1, pTop (n : Int), pTop (n : Int))], List.replicate n 1) (n : Int)) = false := by
      show (bRow ([(1, pTop (n : Int), pTop (n : Int))], List.replicate n 1) (n : Int) 0 || false) = false
      unfold bRow
      show ((!(pIn 1 1 99) || ((decide (0 < 0) && _) || (!(pIn (pTop (n : Int)) 0 (pTop (n : Int))) || (bclr .i64 (pTop (n : Int)) (pTop (n : Int)) != 0)))) || false) = false
      rw [hb]
      have : pIn (pTop (n : Int)) 0 (pTop (n : Int)) = true := by unfold pIn; rw [decide_eq_true (by omega), decide_eq_true (by omega)]; rfl
      rw [this]; rfl
    rw [e2]
    have e3 : (List.range n).any (bPvid ([(1, pTop (n : Int), pTop (n : Int))], List.replicate n 1)) = false := by
      apply Bool.eq_false_iff.2
      intro h
      obtain ⟨k, hk, hx⟩ := List.any_eq_true.1 h
      have hk := List.mem_range.1 hk
      unfold bPvid at hx
      have : (List.replicate n (1 : Int))[k]? = some 1 := by rw [List.getElem?_replicate, if_pos hk]
      simp only [this, hrow] at hx
      revert hx; decide
    rw [e3]; rfl
  · have hr : r ∈ [((1 : Int), pTop (n : Int), pTop (n : Int))] := hr
    simp at hr
    subst hr
    exact ⟨by show _ ≤ pTop (n : Int); omega, by show pTop (n : Int) ≤ _; omega⟩
theorem drawV {c : L1Cur} (h : CW c) {n : Nat} (h1 : 1 ≤ n) (h6 : n ≤ 6) : ∃ c' v, spec_l9Draw c (n : Int) = some (c', v) ∧ CW c' ∧ VT v n := by
  unfold spec_l9Draw
  obtain ⟨c0, m, e0, w0, hm⟩ := belowN h (n := 6) (by decide)
  rw [newV h1 h6, Option.bind_some]
  have e0' : spec_l1Below c 6 = some (c0, (m : Int)) := e0
  rw [e0', Option.bind_some]
  obtain ⟨d, hd, g1, g2⟩ := loop_inv (step := fun z : Int × List Int × Int × Int × List Vrow × List Int => spec_l9Draw_l0 (n : Int) z.1 z.2.1 z.2.2.1 z.2.2.2.1 z.2.2.2.2.1 z.2.2.2.2.2) (fun k z => z.1 = (m : Int) - (k : Int) ∧ CW (z.2.1, z.2.2.1, z.2.2.2.1) ∧ VT z.2.2.2.2 n) m (fun d => CW (d.1, d.2.1, d.2.2.1) ∧ VT d.2.2.2 n)
    (fun k z hk ⟨a1, a2, a3⟩ => by
      obtain ⟨i, x, y, s, v⟩ := z
      simp only at a1 a2 a3
      left
      show ∃ y', spec_l9Draw_l0 (n : Int) i x y s v.1 v.2 = _ ∧ _
      unfold spec_l9Draw_l0
      have hi : decide (i > 0) = true := decide_eq_true (by omega)
      have hw : w64 (i - 1) = (m : Int) - ((k + 1 : Nat) : Int) := by rw [w64_id (by omega) (by omega)]; omega
      obtain ⟨c1, r1, e1, w1, _⟩ := belowD a2 4
      rw [hi, cond_true, e1, Option.bind_some, hw]
      show ∃ y', cond (r1 == 0) _ _ = _ ∧ _
      cases r1 == 0 with
      | true =>
        obtain ⟨c2, r2, e2, w2, _⟩ := belowD w1 (n : Int)
        obtain ⟨c3, r3, e3, w3, _⟩ := belowD w2 3
        obtain ⟨v', ok, e4, g4⟩ := pvidV a3 r2 (w64 (1 + r3))
        have e4' : spec_SetPvid (v.1, v.2) r2 (w64 (1 + r3)) = some (v', ok) := e4
        rw [cond_true, e2, Option.bind_some, e3, Option.bind_some, e4', Option.bind_some]
        exact ⟨_, rfl, rfl, w3, g4⟩
      | false =>
        rw [cond_false]
        show ∃ y', cond (r1 == 1) _ _ = _ ∧ _
        cases r1 == 1 with
        | true =>
          obtain ⟨c2, r2, e2, w2, _⟩ := belowD w1 2
          obtain ⟨v', ok, e4, g4⟩ := dropV a3 (w64 (2 + r2))
          have e4' : spec_DropRow (v.1, v.2) (w64 (2 + r2)) = some (v', ok) := e4
          rw [cond_true, e2, Option.bind_some, e4', Option.bind_some]
          exact ⟨_, rfl, rfl, w2, g4⟩
        | false =>
          obtain ⟨c2, r2, e2, w2, hr2⟩ := row2D w1 h1 h6
          obtain ⟨v', ok, e4, g4⟩ := putV a3 hr2
          have e4' : spec_PutRow (v.1, v.2) r2 = some (v', ok) := e4
          rw [cond_false, e2, Option.bind_some, e4', Option.bind_some]
          exact ⟨_, rfl, rfl, w2, g4⟩)
    (fun z ⟨a1, a2, a3⟩ => by
      obtain ⟨i, x, y, s, v⟩ := z
      simp only at a1 a2 a3
      refine ⟨(x, y, s, v), ?_, a2, a3⟩
      show spec_l9Draw_l0 (n : Int) i x y s v.1 v.2 = _
      unfold spec_l9Draw_l0
      have hi : decide (i > 0) = false := decide_eq_false (by omega)
      rw [hi, cond_false]) (x := ((m : Int), c0.1, c0.2.1, c0.2.2, [(1, pTop (n : Int), pTop (n : Int))], List.replicate n 1)) ⟨by simp, w0, newVT h1 h6⟩
  rw [hd, Option.bind_some]
  exact ⟨_, _, rfl, g1, g2⟩
theorem vecD {c : L1Cur} (h : CW c) : ∃ c' v, spec_l7Draw c = some (c', v) ∧ CW c' ∧ pVec v = true := by
  obtain ⟨c1, k1, e1, w1, b1⟩ := belowN h (n := 5) (by decide)
  obtain ⟨c2, x2, e2, w2, b2⟩ := intD w1 (l := [0, 1, 2, 5, 10, 100]) (by decide)
  obtain ⟨c3, x3, e3, w3, b3⟩ := intD w2 (l := [0, 1, 2, 9, 10]) (by decide)
  obtain ⟨c4, k4, e4, w4, b4⟩ := belowN w3 (n := 5) (by decide)
  obtain ⟨c5, k5, e5, w5, b5⟩ := belowN w4 (n := 4) (by decide)
  have e1' : spec_l1Below c 5 = some (c1, (k1 : Int)) := e1
  have e4' : spec_l1Below c3 5 = some (c4, (k4 : Int)) := e4
  have e5' : spec_l1Below c4 4 = some (c5, (k5 : Int)) := e5
  unfold spec_l7Draw
  rw [e1', Option.bind_some, e2, Option.bind_some, e3, Option.bind_some, e4', Option.bind_some, e5', Option.bind_some]
  refine ⟨_, _, rfl, w5, ?_⟩
  show pVec (w64 (1 + (k1 : Int)), x2, x3, w64 (1 + (k4 : Int)), (k5 : Int)) = true
  rw [w64_id (by omega) (by omega), w64_id (by omega) (by omega)]
  have i1 : pIn (1 + (k1 : Int)) 1 99 = true := by unfold pIn; rw [decide_eq_true (by omega), decide_eq_true (by omega)]; rfl
  have i4 : pIn (1 + (k4 : Int)) 1 99 = true := by unfold pIn; rw [decide_eq_true (by omega), decide_eq_true (by omega)]; rfl
  have i5 : pIn (k5 : Int) 0 7 = true := by unfold pIn; rw [decide_eq_true (by omega), decide_eq_true (by omega)]; rfl
  have i2 : pIn x2 0 100000 = true := by
    have : ∀ x ∈ ([0, 1, 2, 5, 10, 100] : List Int), pIn x 0 100000 = true := by decide
    exact this x2 b2
  have i3 : pIn x3 0 10 = true := by
    have : ∀ x ∈ ([0, 1, 2, 9, 10] : List Int), pIn x 0 10 = true := by decide
    exact this x3 b3
  unfold pVec
  rw [i1, i2, i3, i4, i5]; rfl
theorem portsD {c : L1Cur} (h : CW c) {n : Nat} (h6 : n ≤ 6) : ∃ c' l, spec_l10Draw c (n : Int) = some (c', l) ∧ CW c' ∧ l.length = n ∧ ∀ x ∈ l, pPt x = true := by
  unfold spec_l10Draw
  obtain ⟨d, hd, g1, g2, g3⟩ := loop_inv (step := fun z : Int × List Int × Int × Int × List Pt => spec_l10Draw_l0 (n : Int) z.1 z.2.1 z.2.2.1 z.2.2.2.1 z.2.2.2.2) (fun k z => z.1 = (k : Int) ∧ CW (z.2.1, z.2.2.1, z.2.2.2.1) ∧ z.2.2.2.2.length = k ∧ ∀ x ∈ z.2.2.2.2, pPt x = true) n (fun d => CW (d.1, d.2.1, d.2.2.1) ∧ d.2.2.2.length = n ∧ ∀ x ∈ d.2.2.2, pPt x = true)
    (fun k z hk ⟨a1, a2, a3, a4⟩ => by
      obtain ⟨i, x, y, s, l⟩ := z
      simp only at a1 a2 a3 a4
      subst a1
      left
      show ∃ y', spec_l10Draw_l0 (n : Int) (k : Int) x y s l = _ ∧ _
      unfold spec_l10Draw_l0
      obtain ⟨c1, up, e1, w1⟩ := onceD a2 4
      obtain ⟨c2, cost, e2, w2, b2⟩ := intD w1 (l := [1, 1, 2, 5, 10]) (by decide)
      have hc : pIn cost 1 1000 = true := by
        have : ∀ x ∈ ([1, 1, 2, 5, 10] : List Int), pIn x 1 1000 = true := by decide
        exact this cost b2
      have ha : ∀ q : Pt, app l [q] = some (l ++ [q]) := fun q => app_small (by show l.length + 1 ≤ _; omega)
      have hin : ∀ q : Pt, pPt q = true → (l ++ [q]).length = k + 1 ∧ ∀ x ∈ l ++ [q], pPt x = true := fun q hq => ⟨by simp; omega, fun x hx => by
        simp at hx
        rcases hx with hx | rfl
        · exact a4 x hx
        · exact hq⟩
      rw [dlt (by omega), cond_true, e1, Option.bind_some, e2, Option.bind_some, w64_nat (by omega)]
      show ∃ y', cond (!up) _ _ = _ ∧ _
      cases up with
      | true =>
        simp only [ha, Bool.not_true, cond_false, Option.bind_some]
        obtain ⟨q1, q2⟩ := hin (false, cost, false, 0, 0, 0, 0, 0) (by unfold pPt; rw [hc]; rfl)
        exact ⟨_, rfl, rfl, w2, q1, q2⟩
      | false =>
        obtain ⟨c3, has, e3, w3⟩ := onceD w2 4
        rw [Bool.not_false, cond_true, e3, Option.bind_some]
        show ∃ y', cond (!has) _ _ = _ ∧ _
        cases has with
        | true =>
          simp only [ha, Bool.not_true, cond_false, Option.bind_some]
          obtain ⟨q1, q2⟩ := hin (true, cost, false, 0, 0, 0, 0, 0) (by unfold pPt; rw [hc]; rfl)
          exact ⟨_, rfl, rfl, w3, q1, q2⟩
        | false =>
          obtain ⟨c4, v, e4, w4, hv⟩ := vecD w3
          simp only [ha, Bool.not_false, cond_true, Option.bind_some, e4]
          obtain ⟨q1, q2⟩ := hin (true, cost, true, v.1, v.2.1, v.2.2.1, v.2.2.2.1, v.2.2.2.2) (by unfold pPt; rw [hc]; exact hv)
          exact ⟨_, rfl, rfl, w4, q1, q2⟩)
    (fun z ⟨a1, a2, a3, a4⟩ => by
      obtain ⟨i, x, y, s, l⟩ := z
      simp only at a1 a2 a3 a4
      subst a1
      refine ⟨(x, y, s, l), ?_, a2, a3, a4⟩
      show spec_l10Draw_l0 (n : Int) _ x y s l = _
      unfold spec_l10Draw_l0
      rw [dnlt (by omega), cond_false]) (x := (0, c.1, c.2.1, c.2.2, [])) ⟨rfl, h, rfl, fun x hx => absurd hx List.not_mem_nil⟩
  rw [hd, Option.bind_some]
  exact ⟨_, _, rfl, g1, g2, g3⟩

set_option linter.unusedVariables false
set_option linter.unusedSimpArgs false
def lt (a b : Fent) : Prop := a.1 < b.1 ∨ (a.1 = b.1 ∧ a.2.1 < b.2.1)
def same (a b : Fent) : Prop := a.1 = b.1 ∧ a.2.1 = b.2.1
theorem lt_trans {a b c : Fent} (h : lt a b) (k : lt b c) : lt a c := by unfold lt at *; omega
theorem lt_ne {a b : Fent} (h : lt a b) : ¬ same a b := by unfold lt same at *; omega
structure FB (l : List Fent) : Prop where
  e : ∀ x ∈ l, pFent x = true
  o : l.Pairwise lt
  n : l.length ≤ 12
theorem FB.ok {l : List Fent} (h : FB l) : pFdb l = true := by
  unfold pFdb
  have hn := h.n
  rw [decide_eq_true (show (l.length : Int) ≤ 12 by omega), Bool.and_true, Bool.not_eq_true']
  apply Bool.eq_false_iff.2
  intro ha
  obtain ⟨k, hk, hx⟩ := List.any_eq_true.1 ha
  have hk := List.mem_range.1 hk
  unfold bFent at hx
  simp only [List.getElem?_eq_getElem hk, h.e _ (List.getElem_mem hk), Bool.not_true, Bool.false_or, Bool.and_eq_true, decide_eq_true_eq] at hx
  obtain ⟨h0, hx⟩ := hx
  simp only [List.getElem?_eq_getElem (show k - 1 < l.length by omega), Bool.not_eq_true'] at hx
  have hl := List.pairwise_iff_getElem.1 h.o (k - 1) k (by omega) hk (by omega)
  unfold pBehind at hx
  simp only [Bool.or_eq_false_iff, Bool.and_eq_false_iff, decide_eq_false_iff_not, beq_eq_false_iff_ne] at hx
  unfold lt at hl
  omega
theorem okF {l : List Fent} (h : FB l) : spec_FdbOk l = some true := by
  have hn := h.n
  rw [fdbS (by omega), h.ok]
theorem FB.copy {l : List Fent} (h : FB l) : spec_l8Copy l = some l := by
  have hn := h.n
  unfold spec_l8Copy
  rw [app_small (by show 0 + l.length ≤ _; omega)]; rfl
theorem atF {l : List Fent} (hn : l.length < 9223372036854775807) (tag mac : Int) : ∃ r, spec_l8At l tag mac = some r ∧ ((r = -1 ∧ ∀ x ∈ l, ¬ (x.1 = tag ∧ x.2.1 = mac)) ∨ ∃ k : Nat, ∃ hk : k < l.length, r = (k : Int) ∧ l[k].1 = tag ∧ l[k].2.1 = mac) := by
  obtain ⟨v, h1, h2⟩ := loop_inv (step := fun z => spec_l8At_l0 l tag mac z) (fun k i => i = (k : Int) ∧ ∀ x ∈ l.take k, ¬ (x.1 = tag ∧ x.2.1 = mac)) l.length (fun v => (v = .inl () ∧ ∀ x ∈ l, ¬ (x.1 = tag ∧ x.2.1 = mac)) ∨ ∃ k : Nat, ∃ hk : k < l.length, v = .inr (k : Int) ∧ l[k].1 = tag ∧ l[k].2.1 = mac)
    (fun k i hk ⟨e, hx⟩ => by
      subst e
      have hs : spec_l8At_l0 l tag mac (k : Int) = cond (l[k].1 == tag && l[k].2.1 == mac) (some (.inr (.inr (k : Int)))) (some (.inl ((k + 1 : Nat) : Int))) := by
        unfold spec_l8At_l0
        simp only [dlt (show (k : Int) < (l.length : Int) by omega), cond_true, at_nat hk, Option.bind_some, w64_nat (show k < 9223372036854775807 by omega)]
        cases l[k].1 == tag <;> rfl
      cases hb : (l[k].1 == tag && l[k].2.1 == mac) with
      | true =>
        simp only [Bool.and_eq_true, beq_iff_eq] at hb
        refine .inr ⟨_, by rw [hs]; rw [show (l[k].1 == tag && l[k].2.1 == mac) = true by simp [hb.1, hb.2]]; rfl, .inr ⟨k, hk, rfl, hb.1, hb.2⟩⟩
      | false =>
        refine .inl ⟨_, by rw [hs, hb]; rfl, rfl, fun x hx' => ?_⟩
        rw [List.take_add_one, List.getElem?_eq_getElem hk, List.mem_append] at hx'
        rcases hx' with hx' | hx'
        · exact hx x hx'
        · simp at hx'
          subst hx'
          intro ⟨q1, q2⟩
          rw [q1, q2] at hb
          simp at hb)
    (fun i ⟨e, hx⟩ => by
      subst e
      rw [List.take_length] at hx
      refine ⟨.inl (), ?_, .inl ⟨rfl, hx⟩⟩
      show spec_l8At_l0 l tag mac _ = _
      unfold spec_l8At_l0
      rw [dnlt (by omega), cond_false]) (x := 0) ⟨rfl, by simp⟩
  unfold spec_l8At
  rw [h1, Option.bind_some]
  rcases h2 with ⟨rfl, h2⟩ | ⟨k, hk, rfl, h2⟩
  · exact ⟨_, rfl, .inl ⟨rfl, h2⟩⟩
  · exact ⟨_, rfl, .inr ⟨k, hk, rfl, h2⟩⟩
def aheadB (x e : Fent) : Bool := cond (x.1 != e.1) (decide (x.1 < e.1)) (decide (x.2.1 < e.2.1))
theorem ahead_lt {x e : Fent} (h : aheadB x e = true) : lt x e := by
  unfold aheadB at h
  unfold lt
  by_cases hx : x.1 = e.1
  · rw [show (x.1 != e.1) = false by simp [hx], cond_false] at h
    exact .inr ⟨hx, of_decide_eq_true h⟩
  · rw [show (x.1 != e.1) = true from bne_iff_ne.2 hx, cond_true] at h
    exact .inl (of_decide_eq_true h)
theorem not_ahead {x e : Fent} (h : aheadB x e = false) : lt e x ∨ same x e := by
  unfold aheadB at h
  unfold lt same
  by_cases hx : x.1 = e.1
  · rw [show (x.1 != e.1) = false by simp [hx], cond_false] at h
    have := of_decide_eq_false h
    omega
  · rw [show (x.1 != e.1) = true from bne_iff_ne.2 hx, cond_true] at h
    have := of_decide_eq_false h
    omega
def otherB (x e : Fent) : Bool := x.1 != e.1 || x.2.1 != e.2.1
theorem other_true {x e : Fent} (h : otherB x e = true) : ¬ same x e := by
  unfold otherB at h; unfold same
  simp only [Bool.or_eq_true, bne_iff_ne] at h
  omega
theorem other_false {x e : Fent} (h : otherB x e = false) : same x e := by
  unfold otherB at h; unfold same
  simp only [Bool.or_eq_false_iff, bne_eq_false_iff_eq] at h
  exact h
theorem pair_snoc {l : List Fent} {x : Fent} (h : l.Pairwise lt) (k : ∀ y ∈ l, lt y x) : (l ++ [x]).Pairwise lt := by
  rw [List.pairwise_append]
  exact ⟨h, List.pairwise_singleton _ _, fun a ha b hb => by simp at hb; subst hb; exact k a ha⟩
theorem putF {l : List Fent} (h : FB l) {e : Fent} (he : pFent e = true) (hroom : (∃ x ∈ l, same x e) ∨ l.length < 12) : ∃ y, spec_l8Put l e = some y ∧ FB y := by
  have hn := h.n
  have hlt : ∀ i j (hi : i < l.length) (hj : j < l.length), i < j → lt l[i] l[j] := List.pairwise_iff_getElem.1 h.o
  obtain ⟨d, hd, g⟩ := loop_inv (step := fun z : Bool × Int × List Fent => spec_l8Put_l0 l e z.1 z.2.1 z.2.2)
    (fun k z => z.2.1 = (k : Int) ∧ (∀ x ∈ z.2.2, pFent x = true) ∧ z.2.2.Pairwise lt ∧
      (z.1 = false → z.2.2 = l.take k ∧ ∀ x ∈ l.take k, lt x e) ∧
      (z.1 = true → (∀ x ∈ z.2.2, ∀ j (hj : j < l.length), k ≤ j → lt x l[j]) ∧ (∀ j (hj : j < l.length), k ≤ j → lt e l[j]) ∧ z.2.2.length ≤ k + 1 ∧ ((∃ x ∈ l.take k, same x e) → z.2.2.length ≤ k))) l.length
    (fun d => (∀ x ∈ d.2, pFent x = true) ∧ d.2.Pairwise lt ∧ (d.1 = false → d.2 = l ∧ ∀ x ∈ l, lt x e) ∧ (d.1 = true → d.2.length ≤ l.length + 1 ∧ ((∃ x ∈ l, same x e) → d.2.length ≤ l.length)))
    (fun k z hk ⟨e1, e2, e3, e4, e5⟩ => by
      obtain ⟨t, i, b⟩ := z
      simp only at e1 e2 e3 e4 e5
      subst e1
      left
      have hf : pFent l[k] = true := h.e _ (List.getElem_mem hk)
      have hbl : b.length ≤ 100 := by
        cases t with
        | false => rw [(e4 rfl).1, List.length_take]; omega
        | true => have := (e5 rfl).2.2.1; omega
      have ha : ∀ (xs : List Fent) (y : Fent), xs.length ≤ 101 → app xs [y] = some (xs ++ [y]) := fun xs y h => app_small (by show xs.length + 1 ≤ _; omega)
      have htk : l.take (k + 1) = l.take k ++ [l[k]] := by rw [List.take_add_one, List.getElem?_eq_getElem hk]; rfl
      have hs : spec_l8Put_l0 l e t (k : Int) b = cond (!t && !(aheadB l[k] e))
          (cond (otherB l[k] e) (some (.inl (true, ((k + 1 : Nat) : Int), b ++ [e] ++ [l[k]]))) (some (.inl (true, ((k + 1 : Nat) : Int), b ++ [e]))))
          (cond (otherB l[k] e) (some (.inl (t, ((k + 1 : Nat) : Int), b ++ [l[k]]))) (some (.inl (t, ((k + 1 : Nat) : Int), b)))) := by
        have hA : spec_l8Ahead l[k] e.1 e.2.1 = some (aheadB l[k] e) := by unfold spec_l8Ahead aheadB; cases (l[k].1 != e.1) <;> rfl
        have hO : (cond (l[k].1 != e.1) (some true) (some (l[k].2.1 != e.2.1))) = some (otherB l[k] e) := by unfold otherB; cases (l[k].1 != e.1) <;> rfl
        unfold spec_l8Put_l0
        simp only [dlt (show (k : Int) < (l.length : Int) by omega), cond_true, at_nat hk, Option.bind_some, w64_nat (show k < 9223372036854775807 by omega), hA, hO, ha b e (by omega), ha b l[k] (by omega), ha (b ++ [e]) l[k] (by rw [List.length_append]; show b.length + 1 ≤ _; omega)]
        cases t <;> cases aheadB l[k] e <;> rfl
      show ∃ y, spec_l8Put_l0 l e t (k : Int) b = _ ∧ _
      rw [hs]
      cases t with
      | false =>
        obtain ⟨f1, f2⟩ := e4 rfl
        subst f1
        cases hah : aheadB l[k] e with
        | true =>
          have hl := ahead_lt hah
          have ho : otherB l[k] e = true := by
            cases ho : otherB l[k] e with
            | true => rfl
            | false => exact absurd (other_false ho) (lt_ne hl)
          rw [ho]
          refine ⟨_, rfl, rfl, fun x hx => ?_, ?_, fun _ => ⟨by show l.take k ++ [l[k]] = _; rw [htk], fun x hx => ?_⟩, (fun ht => by cases ht)⟩
          · have hx : x ∈ l.take k ++ [l[k]] := hx
            rcases List.mem_append.1 hx with hx | hx
            · exact e2 x hx
            · simp at hx; subst hx; exact hf
          · show (l.take k ++ [l[k]]).Pairwise lt
            rw [← htk]; exact List.Pairwise.sublist (List.take_sublist _ _) h.o
          · rw [htk] at hx
            rcases List.mem_append.1 hx with hx | hx
            · exact f2 x hx
            · simp at hx; subst hx; exact hl
        | false =>
          have hge := not_ahead hah
          have hpe : (l.take k ++ [e]).Pairwise lt := pair_snoc e3 f2
          have hee : ∀ x ∈ l.take k ++ [e], pFent x = true := fun x hx => by
            rcases List.mem_append.1 hx with hx | hx
            · exact e2 x hx
            · simp at hx; subst hx; exact he
          have hlater : ∀ j (hj : j < l.length), k + 1 ≤ j → lt e l[j] := fun j hj hkj => by
            have h1 := hlt k j hk hj (by omega)
            rcases hge with h2 | h2
            · exact lt_trans h2 h1
            · unfold same at h2; unfold lt at h1 ⊢; omega
          have htl : ∀ x ∈ l.take k, ∀ j (hj : j < l.length), k + 1 ≤ j → lt x l[j] := fun x hx j hj hkj => lt_trans (f2 x hx) (hlater j hj hkj)
          have hlen : (l.take k).length = k := by rw [List.length_take]; omega
          cases ho : otherB l[k] e with
          | true =>
            have hek : lt e l[k] := by
              rcases hge with h2 | h2
              · exact h2
              · exact absurd h2 (other_true ho)
            refine ⟨_, rfl, rfl, fun x hx => ?_, ?_, (fun ht => by cases ht), fun _ => ⟨fun x hx j hj hkj => ?_, hlater, ?_, fun ⟨x, hx, hxe⟩ => ?_⟩⟩
            · have hx : x ∈ l.take k ++ [e] ++ [l[k]] := hx
              rcases List.mem_append.1 hx with hx | hx
              · exact hee x hx
              · simp at hx; subst hx; exact hf
            · show (l.take k ++ [e] ++ [l[k]]).Pairwise lt
              refine pair_snoc hpe fun y hy => ?_
              rcases List.mem_append.1 hy with hy | hy
              · exact lt_trans (f2 y hy) hek
              · simp at hy; subst hy; exact hek
            · have hx : x ∈ l.take k ++ [e] ++ [l[k]] := hx
              rcases List.mem_append.1 hx with hx | hx
              · rcases List.mem_append.1 hx with hx | hx
                · exact htl x hx j hj hkj
                · simp at hx; subst hx; exact hlater j hj hkj
              · simp at hx; subst hx; exact hlt k j hk hj (by omega)
            · show (l.take k ++ [e] ++ [l[k]]).length ≤ _
              simp only [List.length_append, hlen, List.length_singleton]; omega
            · rw [htk] at hx
              rcases List.mem_append.1 hx with hx | hx
              · exact absurd hxe (lt_ne (f2 x hx))
              · simp at hx; subst hx; exact absurd hxe (other_true ho)
          | false =>
            refine ⟨_, rfl, rfl, hee, hpe, (fun ht => by cases ht), fun _ => ⟨fun x hx j hj hkj => ?_, hlater, ?_, fun _ => ?_⟩⟩
            · have hx : x ∈ l.take k ++ [e] := hx
              rcases List.mem_append.1 hx with hx | hx
              · exact htl x hx j hj hkj
              · simp at hx; subst hx; exact hlater j hj hkj
            · show (l.take k ++ [e]).length ≤ _
              simp only [List.length_append, hlen, List.length_singleton]; omega
            · show (l.take k ++ [e]).length ≤ _
              simp only [List.length_append, hlen, List.length_singleton]; omega
      | true =>
        obtain ⟨f1, f2, f3, f4⟩ := e5 rfl
        cases ho : otherB l[k] e with
        | true =>
          refine ⟨_, rfl, rfl, fun x hx => ?_, pair_snoc e3 fun y hy => f1 y hy k hk (Nat.le_refl _), (fun ht => by cases ht), fun _ => ⟨fun x hx j hj hkj => ?_, fun j hj hkj => f2 j hj (by omega), ?_, fun ⟨x, hx, hxe⟩ => ?_⟩⟩
          · have hx : x ∈ b ++ [l[k]] := hx
            rcases List.mem_append.1 hx with hx | hx
            · exact e2 x hx
            · simp at hx; subst hx; exact hf
          · have hx : x ∈ b ++ [l[k]] := hx
            rcases List.mem_append.1 hx with hx | hx
            · exact f1 x hx j hj (by omega)
            · simp at hx; subst hx; exact hlt k j hk hj (by omega)
          · show (b ++ [l[k]]).length ≤ _
            rw [List.length_append]; show b.length + 1 ≤ _; omega
          · show (b ++ [l[k]]).length ≤ _
            rw [htk] at hx
            rcases List.mem_append.1 hx with hx | hx
            · have := f4 ⟨x, hx, hxe⟩
              rw [List.length_append]; show b.length + 1 ≤ _; omega
            · simp at hx; subst hx; exact absurd hxe (other_true ho)
        | false =>
          exact ⟨_, rfl, rfl, e2, e3, (fun ht => by cases ht), fun _ => ⟨fun x hx j hj hkj => f1 x hx j hj (by omega), fun j hj hkj => f2 j hj (by omega), by show b.length ≤ _; omega, fun _ => by show b.length ≤ _; omega⟩⟩)
    (fun z ⟨e1, e2, e3, e4, e5⟩ => by
      obtain ⟨t, i, b⟩ := z
      simp only at e1 e2 e3 e4 e5
      subst e1
      rw [List.take_length] at e4 e5
      refine ⟨(t, b), ?_, e2, e3, e4, fun ht => ⟨(e5 ht).2.2.1, (e5 ht).2.2.2⟩⟩
      show spec_l8Put_l0 l e t _ b = _
      unfold spec_l8Put_l0
      rw [dnlt (by omega), cond_false]) (x := (false, 0, [])) ⟨rfl, fun x hx => absurd hx List.not_mem_nil, List.Pairwise.nil, fun _ => ⟨by simp, fun x hx => by simp at hx⟩, (fun ht => by cases ht)⟩
  obtain ⟨g1, g2, g3, g4⟩ := g
  unfold spec_l8Put
  rw [hd, Option.bind_some]
  obtain ⟨t, b⟩ := d
  simp only at g1 g2 g3 g4
  cases t with
  | true =>
    refine ⟨b, rfl, g1, g2, ?_⟩
    obtain ⟨k1, k2⟩ := g4 rfl
    rcases hroom with hr | hr
    · have := k2 hr; omega
    · omega
  | false =>
    obtain ⟨k1, k2⟩ := g3 rfl
    have hr : l.length < 12 := by
      rcases hroom with ⟨x, hx, hxe⟩ | hr
      · exact absurd hxe (lt_ne (k2 x hx))
      · exact hr
    show ∃ y, ((app b [e]).bind fun zs => some zs) = some y ∧ FB y
    rw [k1, app_small (by show l.length + 1 ≤ _; omega), Option.bind_some]
    refine ⟨_, rfl, fun x hx => ?_, pair_snoc h.o k2, by rw [List.length_append]; show l.length + 1 ≤ 12; omega⟩
    rcases List.mem_append.1 hx with hx | hx
    · exact h.e x hx
    · simp at hx; subst hx; exact he
theorem entF (e : Fent) : spec_l8Ent e = some (pFent e) := by rw [fentS]; exact fentT e
theorem learnF {l : List Fent} (h : FB l) (tag mac port : Int) : ∃ y, spec_Learn l tag mac port = some y ∧ FB y := by
  have hn := h.n
  obtain ⟨r, hr, hr2⟩ := atF (l := l) (by omega) tag mac
  unfold spec_Learn
  rw [hr, Option.bind_some, okF h, Option.bind_some, entF, Option.bind_some, h.copy, Option.bind_some, Bool.not_true, cond_false, Option.bind_some]
  cases he : pFent (tag, mac, port, 0, false) with
  | false => exact ⟨_, rfl, h⟩
  | true =>
    rcases hr2 with ⟨rfl, hr2⟩ | ⟨k, hk, rfl, q1, q2⟩
    · rw [Bool.not_true, cond_false]
      by_cases hlen : l.length < 12
      · obtain ⟨y, hy, hy2⟩ := putF h he (.inr hlen)
        refine ⟨y, ?_, hy2⟩
        rw [hy]
        show (cond (decide ((l.length : Int) ≥ 12)) _ _) = _
        rw [decide_eq_false (by omega)]; rfl
      · refine ⟨l, ?_, h⟩
        show (cond (decide ((l.length : Int) ≥ 12)) _ _) = _
        rw [decide_eq_true (by omega)]; rfl
    · simp only [Bool.not_true, cond_false, decide_eq_true (show (k : Int) ≥ 0 by omega), cond_true, at_nat hk, Option.bind_some, dnlt (show ¬ (k : Int) < 0 by omega)]
      obtain ⟨y, hy, hy2⟩ := putF h he (.inl ⟨l[k], List.getElem_mem hk, q1, q2⟩)
      cases l[k].2.2.2.2 with
      | true => exact ⟨_, rfl, h⟩
      | false => exact ⟨y, by rw [hy]; rfl, hy2⟩
theorem staticF {l : List Fent} (h : FB l) (tag mac port : Int) : ∃ y ok, spec_SetStatic l tag mac port = some (y, ok) ∧ FB y := by
  have hn := h.n
  obtain ⟨r, hr, hr2⟩ := atF (l := l) (by omega) tag mac
  unfold spec_SetStatic
  rw [hr, Option.bind_some, okF h, Option.bind_some, entF, Option.bind_some, h.copy, Option.bind_some, Bool.not_true, cond_false, Option.bind_some]
  cases he : pFent (tag, mac, port, 0, true) with
  | false => exact ⟨_, _, rfl, h⟩
  | true =>
    rcases hr2 with ⟨rfl, hr2⟩ | ⟨k, hk, rfl, q1, q2⟩
    · rw [Bool.not_true, cond_false]
      by_cases hlen : l.length < 12
      · obtain ⟨y, hy, hy2⟩ := putF h he (.inr hlen)
        refine ⟨y, true, ?_, hy2⟩
        rw [hy]
        show (cond (decide ((l.length : Int) ≥ 12)) _ _) = _
        rw [decide_eq_false (by omega)]; rfl
      · refine ⟨l, false, ?_, h⟩
        show (cond (decide ((l.length : Int) ≥ 12)) _ _) = _
        rw [decide_eq_true (by omega)]; rfl
    · rw [Bool.not_true, cond_false, dnlt (show ¬ (k : Int) < 0 by omega), cond_false, Option.bind_some]
      obtain ⟨y, hy, hy2⟩ := putF h he (.inl ⟨l[k], List.getElem_mem hk, q1, q2⟩)
      rw [Option.bind_some, cond_false, hy]
      exact ⟨y, true, rfl, hy2⟩

set_option linter.unusedVariables false
set_option linter.unusedSimpArgs false
theorem newB {id n : Nat} (i1 : 1 ≤ id) (i2 : id ≤ 99) (h1 : 1 ≤ n) (h6 : n ≤ 6) : ∃ ps rs qs, spec_BridgeNew (id : Int) (n : Int) = some ((id : Int), [], ps, [], rs, qs, 0, 0, 0, 0, 0) := by
  have hin : pIn (n : Int) 1 6 = true := by unfold pIn; rw [decide_eq_true (by omega), decide_eq_true (by omega)]; rfl
  have hid : pIn (id : Int) 1 99 = true := by unfold pIn; rw [decide_eq_true (by omega), decide_eq_true (by omega)]; rfl
  obtain ⟨d, hd, ps, rfl⟩ := loop_inv (step := fun z : Int × Int × List UInt8 × Int × Int × Int × Int × Int × List Pt × List Fent => spec_BridgeNew_l0 (n : Int) z.1 z.2.1 z.2.2.1 z.2.2.2.1 z.2.2.2.2.1 z.2.2.2.2.2.1 z.2.2.2.2.2.2.1 z.2.2.2.2.2.2.2.1 z.2.2.2.2.2.2.2.2.1 z.2.2.2.2.2.2.2.2.2)
    (fun k z => ∃ ps : List Pt, ps.length = k ∧ z = ((k : Int), (id : Int), [], 0, 0, 0, 0, 0, ps, [])) n (fun d => ∃ ps : List Pt, d = ((id : Int), [], 0, 0, 0, 0, 0, ps, []))
    (fun k z hk ⟨ps, hp, e⟩ => by
      subst e
      left
      refine ⟨(((k + 1 : Nat) : Int), (id : Int), [], 0, 0, 0, 0, 0, ps ++ [(false, 1, false, 0, 0, 0, 0, 0)], []), ?_, ps ++ [(false, 1, false, 0, 0, 0, 0, 0)], by simp; exact hp, rfl⟩
      show spec_BridgeNew_l0 (n : Int) (k : Int) (id : Int) [] 0 0 0 0 0 ps [] = _
      unfold spec_BridgeNew_l0
      rw [dlt (by omega), cond_true, app_small (by show ps.length + 1 ≤ _; omega), Option.bind_some, w64_nat (by omega)])
    (fun z ⟨ps, hp, e⟩ => by
      subst e
      refine ⟨((id : Int), [], 0, 0, 0, 0, 0, ps, []), ?_, ps, rfl⟩
      show spec_BridgeNew_l0 (n : Int) _ (id : Int) [] 0 0 0 0 0 ps [] = _
      unfold spec_BridgeNew_l0
      rw [dnlt (by omega), cond_false]) (x := (0, (id : Int), [], 0, 0, 0, 0, 0, [], [])) ⟨[], rfl, rfl⟩
  unfold spec_BridgeNew
  rw [inS, Option.bind_some, hid, Bool.not_true, cond_false, inS, Option.bind_some, hin, Option.bind_some, Bool.not_true, cond_false, newV h1 h6, Option.bind_some, hd, Option.bind_some]
  exact ⟨_, _, _, rfl⟩
theorem macD {c : L1Cur} (h : CW c) : ∃ c' x, spec_l6Mac c = some (c', x) ∧ CW c' := by
  obtain ⟨c1, x, e, w, _⟩ := intD h (l := [11, 12, 13, 14]) (by decide)
  unfold spec_l6Mac
  rw [e, Option.bind_some]
  exact ⟨_, _, rfl, w⟩
def Zero (b : Bridge) : Prop := b.2.2.2.2.2.2.2.1 = 0 ∧ b.2.2.2.2.2.2.2.2.1 = 0 ∧ b.2.2.2.2.2.2.2.2.2.1 = 0
theorem bridgeZ {c : L1Cur} (h : CW c) : ∃ c' b, spec_l11Draw c = some (c', b) ∧ CW c' ∧ BWf b ∧ pBridge b = true ∧ Zero b := by
  obtain ⟨c1, p, e1, w1, b1⟩ := belowN h (n := 4) (by decide)
  obtain ⟨c2, q, e2, w2, b2⟩ := belowN w1 (n := 5) (by decide)
  have e1' : spec_l1Below c 4 = some (c1, (p : Int)) := e1
  have e2' : spec_l1Below c1 5 = some (c2, (q : Int)) := e2
  have hp : w64 (1 + (p : Int)) = ((p + 1 : Nat) : Int) := by rw [w64_id (by omega) (by omega)]; omega
  have hq : w64 (1 + (q : Int)) = ((q + 1 : Nat) : Int) := by rw [w64_id (by omega) (by omega)]; omega
  obtain ⟨ps, rs, qs, e3⟩ := newB (id := q + 1) (n := p + 1) (by omega) (by omega) (by omega) (by omega)
  obtain ⟨c4, name, e4, w4, b4⟩ := strD w2 (l := [[], [121, 97, 114, 100], [98, 49]]) (by decide)
  obtain ⟨c5, pts, e5, w5, l5, a5⟩ := portsD w4 (n := p + 1) (by omega)
  obtain ⟨c6, v, e6, w6, a6⟩ := drawV w5 (n := p + 1) (by omega) (by omega)
  obtain ⟨c7, m, e7, w7, b7⟩ := belowN w6 (n := 6) (by decide)
  have e7' : spec_l1Below c6 6 = some (c7, (m : Int)) := e7
  have hname : name.length ≤ 10 := by
    have : ∀ x ∈ ([[], [121, 97, 114, 100], [98, 49]] : List (List UInt8)), x.length ≤ 10 := by decide
    exact this name b4
  obtain ⟨d, hd, g1, g2, g3, g4⟩ := loop_inv (step := fun z : Int × List Int × Int × Int × Int × List UInt8 × Int × Int × Int × Int × Int × List Fent => spec_l11Draw_l0 (c1, (p : Int)) z.1 z.2.1 z.2.2.1 z.2.2.2.1 z.2.2.2.2.1 z.2.2.2.2.2.1 z.2.2.2.2.2.2.1 z.2.2.2.2.2.2.2.1 z.2.2.2.2.2.2.2.2.1 z.2.2.2.2.2.2.2.2.2.1 z.2.2.2.2.2.2.2.2.2.2.1 z.2.2.2.2.2.2.2.2.2.2.2)
    (fun k z => z.1 = (m : Int) - (k : Int) ∧ CW (z.2.1, z.2.2.1, z.2.2.2.1) ∧ (z.2.2.2.2.1 = ((q + 1 : Nat) : Int) ∧ z.2.2.2.2.2.1 = name) ∧ (z.2.2.2.2.2.2.1, z.2.2.2.2.2.2.2.1, z.2.2.2.2.2.2.2.2.1, z.2.2.2.2.2.2.2.2.2.1, z.2.2.2.2.2.2.2.2.2.2.1) = ((0 : Int), (0 : Int), (0 : Int), (0 : Int), (0 : Int)) ∧ FB z.2.2.2.2.2.2.2.2.2.2.2) m
    (fun d => CW (d.1, d.2.1, d.2.2.1) ∧ (d.2.2.2.1 = ((q + 1 : Nat) : Int) ∧ d.2.2.2.2.1 = name) ∧ (d.2.2.2.2.2.1, d.2.2.2.2.2.2.1, d.2.2.2.2.2.2.2.1, d.2.2.2.2.2.2.2.2.1, d.2.2.2.2.2.2.2.2.2.1) = ((0 : Int), (0 : Int), (0 : Int), (0 : Int), (0 : Int)) ∧ FB d.2.2.2.2.2.2.2.2.2.2)
    (fun k z hk ⟨a1, a2, a3, a4, a5⟩ => by
      obtain ⟨i, x, y, s, bid, nm, n6, n7, n8, n9, n10, f⟩ := z
      simp only at a1 a2 a3 a4 a5
      left
      show ∃ y', spec_l11Draw_l0 (c1, (p : Int)) i x y s bid nm n6 n7 n8 n9 n10 f = _ ∧ _
      unfold spec_l11Draw_l0
      have hi : decide (i > 0) = true := decide_eq_true (by omega)
      have hw : w64 (i - 1) = (m : Int) - ((k + 1 : Nat) : Int) := by rw [w64_id (by omega) (by omega)]; omega
      obtain ⟨d1, r1, f1, v1, _⟩ := belowD a2 3
      obtain ⟨d2, r2, f2, v2⟩ := macD v1
      obtain ⟨d3, r3, f3, v3, _⟩ := belowD v2 (w64 (1 + (p : Int)))
      obtain ⟨y', f4, g4⟩ := learnF a5 (w64 (1 + r1)) r2 r3
      rw [hi, cond_true, f1, Option.bind_some, f2, Option.bind_some, f3, Option.bind_some, f4, Option.bind_some, hw]
      exact ⟨_, rfl, rfl, v3, a3, a4, g4⟩)
    (fun z ⟨a1, a2, a3, a4, a5⟩ => by
      obtain ⟨i, x, y, s, bid, nm, n6, n7, n8, n9, n10, f⟩ := z
      simp only at a1 a2 a3 a4 a5
      refine ⟨(x, y, s, bid, nm, n6, n7, n8, n9, n10, f), ?_, a2, a3, a4, a5⟩
      show spec_l11Draw_l0 (c1, (p : Int)) i x y s bid nm n6 n7 n8 n9 n10 f = _
      unfold spec_l11Draw_l0
      have hi : decide (i > 0) = false := decide_eq_false (by omega)
      rw [hi, cond_false]) (x := ((m : Int), c7.1, c7.2.1, c7.2.2, ((q + 1 : Nat) : Int), name, 0, 0, 0, 0, 0, [])) ⟨by simp, w7, ⟨rfl, rfl⟩, rfl, ⟨fun x hx => absurd hx List.not_mem_nil, List.Pairwise.nil, by simp⟩⟩
  obtain ⟨dc, dp, ds, did, dn, n6, n7, n8, n9, n10, df⟩ := d
  simp only at g1 g2 g3 g4
  obtain ⟨rfl, rfl⟩ := g2
  simp only [Prod.mk.injEq] at g3
  obtain ⟨rfl, rfl, rfl, rfl, rfl⟩ := g3
  obtain ⟨c8, st, e8, w8⟩ := onceD g1 3
  obtain ⟨z1, z2, z3, z4⟩ := a6.len
  have hin : ∀ n : Nat, n ≤ 1000000 → pIn (n : Int) 0 1000000 = true := fun n hn => by unfold pIn; rw [decide_eq_true (by omega), decide_eq_true (by omega)]; rfl
  have hlast : ∀ (c : L1Cur) (F : List Fent), CW c → FB F → ∃ c' b, ((spec_l1Below c 5).bind fun t59 => (spec_l1Int t59.1 ([0, 1, 5, 1000000] : List Int)).bind fun t63 => some (t63.1, ((((q + 1 : Nat) : Int), dn, pts, F, v.1, v.2, t59.2, 0, 0, 0, t63.2) : Bridge))) = some (c', b) ∧ CW c' ∧ BWf b ∧ pBridge b = true ∧ Zero b := by
    intro c F hc hF
    obtain ⟨k1, t, f1, u1, b1⟩ := belowN hc (n := 5) (by decide)
    have f1' : spec_l1Below c 5 = some (k1, (t : Int)) := f1
    obtain ⟨k2, x, f2, u2, b2⟩ := intD u1 (l := [0, 1, 5, 1000000]) (by decide)
    have hx : pIn x 0 1000000 = true := by
      have : ∀ x ∈ ([0, 1, 5, 1000000] : List Int), pIn x 0 1000000 = true := by decide
      exact this x b2
    have hFn := hF.n
    rw [f1', Option.bind_some, f2, Option.bind_some]
    refine ⟨_, _, rfl, u2, ⟨by show pts.length < _; omega, by show F.length < _; omega, by show v.1.length < _; omega, by show v.2.length < _; omega, a6.r⟩, ?_, rfl, rfl, rfl⟩
    unfold pBridge pCounts
    show (!((List.range pts.length).any (bPt pts)) && (pIn ((q + 1 : Nat) : Int) 1 99 && (!(decide ((dn.length : Int) > 10)) && (pIn (pts.length : Int) 1 6 && (pFdb F && (pVtab v (pts.length : Int) && (pIn (t : Int) 0 1000000 && (pIn 0 0 1000000 && (pIn 0 0 1000000 && (pIn 0 0 1000000 && pIn x 0 1000000)))))))))) = true
    have q1 : (List.range pts.length).any (bPt pts) = false := by
      apply Bool.eq_false_iff.2
      intro ha
      obtain ⟨k, hk, hx⟩ := List.any_eq_true.1 ha
      have hk := List.mem_range.1 hk
      unfold bPt at hx
      simp only [List.getElem?_eq_getElem hk, a5 _ (List.getElem_mem hk)] at hx
      revert hx; decide
    have q2 : pIn ((q + 1 : Nat) : Int) 1 99 = true := by unfold pIn; rw [decide_eq_true (by omega), decide_eq_true (by omega)]; rfl
    have q3 : decide ((dn.length : Int) > 10) = false := decide_eq_false (by omega)
    have q4 : pIn (pts.length : Int) 1 6 = true := by unfold pIn; rw [decide_eq_true (by omega), decide_eq_true (by omega)]; rfl
    rw [q1, q2, q3, q4, hF.ok, l5, a6.p, hin t (by omega), hx]
    rfl
  have e8' : spec_l1Once (dc, dp, ds) 3 = some (c8, st) := e8
  unfold spec_l11Draw
  rw [e1', Option.bind_some]
  show ∃ c' b, ((spec_l1Below c1 5).bind _) = _ ∧ _
  rw [e2', Option.bind_some]
  show ∃ c' b, ((spec_BridgeNew (w64 (1 + (q : Int))) (w64 (1 + (p : Int)))).bind _) = _ ∧ _
  rw [hp, hq, e3, Option.bind_some, e4, Option.bind_some]
  show ∃ c' b, ((spec_l10Draw c4 ((p + 1 : Nat) : Int)).bind _) = _ ∧ _
  rw [e5, Option.bind_some]
  show ∃ c' b, ((spec_l9Draw c5 ((p + 1 : Nat) : Int)).bind _) = _ ∧ _
  rw [e6, Option.bind_some]
  show ∃ c' b, ((spec_l1Below c6 6).bind _) = _ ∧ _
  rw [e7', Option.bind_some]
  show ∃ c' b, ((loop _ ((m : Int), c7.1, c7.2.1, c7.2.2, ((q + 1 : Nat) : Int), dn, 0, 0, 0, 0, 0, [])).bind _) = _ ∧ _
  rw [hd, Option.bind_some]
  show ∃ c' b, ((spec_l1Once (dc, dp, ds) 3).bind _) = _ ∧ _
  rw [e8', Option.bind_some]
  cases st with
  | false =>
    show ∃ c' b, ((spec_l1Below c8 5).bind _) = _ ∧ _
    exact hlast c8 df w8 g4
  | true =>
    obtain ⟨k1, x1, f1, u1⟩ := macD w8
    obtain ⟨k2, x2, f2, u2, _⟩ := belowD u1 ((p + 1 : Nat) : Int)
    obtain ⟨F, ok, f3, hF⟩ := staticF g4 1 x1 x2
    show ∃ c' b, ((spec_l6Mac c8).bind _) = _ ∧ _
    rw [f1, Option.bind_some]
    show ∃ c' b, ((spec_l1Below k1 ((p + 1 : Nat) : Int)).bind _) = _ ∧ _
    rw [f2, Option.bind_some]
    show ∃ c' b, ((spec_SetStatic df 1 x1 x2).bind _) = _ ∧ _
    rw [f3, Option.bind_some]
    exact hlast k2 F u2 hF
theorem bridgeD {c : L1Cur} (h : CW c) : ∃ c' b, spec_l11Draw c = some (c', b) ∧ CW c' ∧ BWf b ∧ pBridge b = true := by
  obtain ⟨c', b, h1, h2, h3, h4, _⟩ := bridgeZ h
  exact ⟨c', b, h1, h2, h3, h4⟩

set_option linter.unusedVariables false
set_option linter.unusedSimpArgs false
def num (name : List Int) (n : Int) : Bind := ([1, 3, 1] ++ name, 2, n, [], [])
structure BOk (b : Bridge) : Prop where
  w : BWf b
  ok : pBridge b = true
  p : ∀ x ∈ b.2.2.1, pPt x = true
  id : pIn b.1 1 99 = true
  name : b.2.1.length ≤ 10
  n1 : 1 ≤ b.2.2.1.length
  n6 : b.2.2.1.length ≤ 6
  f : pFdb b.2.2.2.1 = true
  v : pVtab (b.2.2.2.2.1, b.2.2.2.2.2.1) (b.2.2.1.length : Int) = true
  c : pCounts b = true
theorem bok {b : Bridge} (h : BWf b) (hb : pBridge b = true) : BOk b := by
  have hb' := hb
  unfold pBridge at hb
  simp only [Bool.and_eq_true, Bool.not_eq_true', decide_eq_false_iff_not] at hb
  obtain ⟨h1, h2, h3, h4, h5, h6, h7⟩ := hb
  refine ⟨h, hb', fun x hx => ?_, h2, by omega, ?_, ?_, h5, h6, h7⟩
  · obtain ⟨k, hk, rfl⟩ := List.getElem_of_mem hx
    cases hp : pPt b.2.2.1[k] with
    | true => rfl
    | false =>
      have := List.any_eq_false.1 h1 k (List.mem_range.2 hk)
      unfold bPt at this
      simp only [List.getElem?_eq_getElem hk, hp] at this
      exact absurd rfl this
  · unfold pIn at h4
    simp only [Bool.and_eq_true, decide_eq_true_eq] at h4; omega
  · unfold pIn at h4
    simp only [Bool.and_eq_true, decide_eq_true_eq] at h4; omega
theorem BOk.vt {b : Bridge} (h : BOk b) : VT (b.2.2.2.2.1, b.2.2.2.2.2.1) b.2.2.1.length := ⟨h.v, h.w.r⟩
theorem BOk.f12 {b : Bridge} (h : BOk b) : b.2.2.2.1.length ≤ 12 := by
  have hf := h.f
  unfold pFdb at hf
  simp only [Bool.and_eq_true, decide_eq_true_eq] at hf
  omega
set_option linter.unusedVariables false
set_option linter.unusedSimpArgs false
set_option linter.unusedVariables false
set_option linter.unusedSimpArgs false
theorem sameO {a b : List Int} (h : b.length < 9223372036854775807) : impl_SameOid a b = some (a == b) := by
  unfold impl_SameOid
  by_cases hl : a.length = b.length
  · have e : ((a.length : Int) != (b.length : Int)) = false := by rw [hl]; simp
    rw [e, cond_false]
    obtain ⟨v, h1, rfl⟩ := loop_inv (step := fun z => impl_SameOid_l0 a b z) (fun k i => i = (k : Int) ∧ a.take k = b.take k) a.length (fun v => v = cond (a == b) (.inl ()) (.inr false))
      (fun k i hk ⟨e, ht⟩ => by
        subst e
        have hb : k < b.length := by omega
        have hs : impl_SameOid_l0 a b (k : Int) = cond (a[k] != b[k]) (some (.inr (.inr false))) (some (.inl ((k + 1 : Nat) : Int))) := by
          unfold impl_SameOid_l0
          rw [dlt (by omega), cond_true, at_nat hk, Option.bind_some, at_nat hb, Option.bind_some, w64_nat (by omega)]
        by_cases hne : a[k] = b[k]
        · refine .inl ⟨_, by rw [hs, show (a[k] != b[k]) = false by simp [hne]]; rfl, rfl, ?_⟩
          rw [List.take_add_one, List.take_add_one, List.getElem?_eq_getElem hk, List.getElem?_eq_getElem hb, ht, hne]
        · refine .inr ⟨_, by rw [hs, show (a[k] != b[k]) = true from bne_iff_ne.2 hne]; rfl, ?_⟩
          have : (a == b) = false := by
            apply beq_eq_false_iff_ne.2
            intro hab
            subst hab
            exact hne rfl
          rw [this]; rfl)
      (fun i ⟨e, ht⟩ => by
        subst e
        have hab : a = b := by
          rw [List.take_length, List.take_of_length_le (by omega)] at ht; exact ht
        exact ⟨.inl (), by show impl_SameOid_l0 a b _ = _; unfold impl_SameOid_l0; rw [dnlt (by omega), cond_false], by rw [show (a == b) = true from beq_iff_eq.2 hab]; rfl⟩) (x := 0) ⟨rfl, by simp⟩
    rw [h1, Option.bind_some]
    cases (a == b) <;> rfl
  · have e : ((a.length : Int) != (b.length : Int)) = true := by simp; omega
    have hne : (a == b) = false := beq_eq_false_iff_ne.2 fun h => hl (by rw [h])
    rw [e, cond_true, hne]
structure Nm (o : List Int) : Prop where
  n1 : 1 ≤ o.length
  n10 : o.length ≤ 10
  e : ∀ x ∈ o, pIn x 0 100000 = true
theorem Nm.ok {o : List Int} (h : Nm o) : impl_OidOk o = some true := by
  have h10 := h.n10
  have h1 := h.n1
  unfold impl_OidOk
  obtain ⟨v, e, rfl⟩ := loop_inv (step := fun z => impl_OidOk_l0 o z) (fun k i => i = (k : Int)) o.length (fun v => v = .inl ())
    (fun k i hk e => by
      subst e
      refine .inl ⟨((k + 1 : Nat) : Int), ?_, rfl⟩
      show impl_OidOk_l0 o (k : Int) = _
      unfold impl_OidOk_l0
      rw [dlt (by omega), cond_true, at_nat hk, Option.bind_some, inT, Option.bind_some, h.e _ (List.getElem_mem hk), w64_nat (by omega)]; rfl)
    (fun i e => by
      subst e
      exact ⟨.inl (), by show impl_OidOk_l0 o _ = _; unfold impl_OidOk_l0; rw [dnlt (by omega), cond_false], rfl⟩) (x := 0) rfl
  rw [e, Option.bind_some]
  show ((impl_in (o.length : Int) 1 10).bind fun t => some t) = _
  rw [inT, Option.bind_some]
  unfold pIn
  rw [decide_eq_true (by omega), decide_eq_true (by omega)]; rfl
inductive Vl : Val → Prop
  | num {n : Int} (h : pIn n (-2147483648) 2147483647 = true) : Vl (2, n, [], [])
  | word {s : List UInt8} (h : s.length ≤ 20) : Vl (4, 0, s, [])
theorem Vl.ok {v : Val} (h : Vl v) : impl_ValOk v = some true := by
  cases h with
  | num h =>
    unfold impl_ValOk impl_isInt impl_SameVal
    simp only [inT, h, Option.bind_some, sameO (show ([] : List Int).length < 9223372036854775807 by decide)]
    simp
  | word h =>
    rename_i s
    have hd : decide ((s.length : Int) ≤ 20) = true := decide_eq_true (by omega)
    unfold impl_ValOk impl_SameVal
    simp only [hd, Option.bind_some, sameO (show ([] : List Int).length < 9223372036854775807 by decide)]
    simp
theorem Vl.k {v : Val} (h : Vl v) : (v.1 == 128) = false := by cases h <;> rfl
theorem Vl.o {v : Val} (h : Vl v) : v.2.2.2 = [] := by cases h <;> rfl
theorem inP {n a c : Int} (h1 : a ≤ n) (h2 : n ≤ c) : pIn n a c = true := by unfold pIn; rw [decide_eq_true (by omega), decide_eq_true (by omega)]; rfl
set_option linter.unusedVariables false
set_option linter.unusedSimpArgs false
theorem oidD {c : L1Cur} (h : CW c) : ∃ c' o, spec_l2Draw c = some (c', o) ∧ CW c' ∧ Nm o := by
  obtain ⟨c0, m, e0, w0, hm⟩ := belowN h (n := 6) (by decide)
  have e0' : spec_l1Below c 6 = some (c0, (m : Int)) := e0
  obtain ⟨d, hd, g1, g2, g3⟩ := loop_inv (step := fun z : Int × List Int × Int × Int × List Int => spec_l2Draw_l0 z.1 z.2.1 z.2.2.1 z.2.2.2.1 z.2.2.2.2) (fun k z => z.1 = ((m + 1 : Nat) : Int) - (k : Int) ∧ CW (z.2.1, z.2.2.1, z.2.2.2.1) ∧ z.2.2.2.2.length = k ∧ ∀ x ∈ z.2.2.2.2, pIn x 0 100000 = true) (m + 1) (fun d => CW (d.1, d.2.1, d.2.2.1) ∧ d.2.2.2.length = m + 1 ∧ ∀ x ∈ d.2.2.2, pIn x 0 100000 = true)
    (fun k z hk ⟨a1, a2, a3, a4⟩ => by
      obtain ⟨i, x, y, s, l⟩ := z
      simp only at a1 a2 a3 a4
      left
      show ∃ y', spec_l2Draw_l0 i x y s l = _ ∧ _
      unfold spec_l2Draw_l0
      have hi : decide (i > 0) = true := decide_eq_true (by omega)
      have hw : w64 (i - 1) = ((m + 1 : Nat) : Int) - ((k + 1 : Nat) : Int) := by rw [w64_id (by omega) (by omega)]; omega
      obtain ⟨c1, r1, e1, w1, b1⟩ := intD a2 (l := [0, 1, 2, 3, 127, 128, 16384, 100000]) (by decide)
      have hr : pIn r1 0 100000 = true := by
        have : ∀ x ∈ ([0, 1, 2, 3, 127, 128, 16384, 100000] : List Int), pIn x 0 100000 = true := by decide
        exact this r1 b1
      rw [hi, cond_true, e1, Option.bind_some]
      show ∃ y', ((app l [r1]).bind _) = _ ∧ _
      rw [app_small (by show l.length + 1 ≤ _; omega), Option.bind_some, hw]
      refine ⟨_, rfl, rfl, w1, by show (l ++ [r1]).length = _; rw [List.length_append, a3]; rfl, fun x hx => ?_⟩
      have hx : x ∈ l ++ [r1] := hx
      simp at hx
      rcases hx with hx | rfl
      · exact a4 x hx
      · exact hr)
    (fun z ⟨a1, a2, a3, a4⟩ => by
      obtain ⟨i, x, y, s, l⟩ := z
      simp only at a1 a2 a3 a4
      refine ⟨(x, y, s, l), ?_, a2, a3, a4⟩
      show spec_l2Draw_l0 i x y s l = _
      unfold spec_l2Draw_l0
      have hi : decide (i > 0) = false := decide_eq_false (by omega)
      rw [hi, cond_false]) (x := (((m + 1 : Nat) : Int), c0.1, c0.2.1, c0.2.2, [])) ⟨by simp, w0, rfl, fun x hx => absurd hx List.not_mem_nil⟩
  have hw : w64 (1 + (m : Int)) = ((m + 1 : Nat) : Int) := by rw [w64_id (by omega) (by omega)]; omega
  unfold spec_l2Draw
  rw [e0', Option.bind_some]
  show ∃ c' o, ((loop _ (w64 (1 + (m : Int)), c0.1, c0.2.1, c0.2.2, [])).bind _) = _ ∧ _
  rw [hw, hd, Option.bind_some]
  exact ⟨_, _, rfl, g1, by omega, by omega, g3⟩
set_option linter.unusedVariables false
set_option linter.unusedSimpArgs false
theorem ageF {l : List Fent} (h : FB l) : ∃ y, spec_AgeAll l = some y ∧ FB y := by
  have hn := h.n
  have hlt : ∀ i j (hi : i < l.length) (hj : j < l.length), i < j → lt l[i] l[j] := List.pairwise_iff_getElem.1 h.o
  obtain ⟨d, hd, g1, g2, g3⟩ := loop_inv (step := fun z : Int × List Fent => spec_AgeAll_l0 l z.1 z.2)
    (fun k z => z.1 = (k : Int) ∧ (∀ x ∈ z.2, pFent x = true) ∧ z.2.Pairwise lt ∧ z.2.length ≤ k ∧ ∀ x ∈ z.2, ∀ j (hj : j < l.length), k ≤ j → lt x l[j]) l.length
    (fun d => (∀ x ∈ d, pFent x = true) ∧ d.Pairwise lt ∧ d.length ≤ 12)
    (fun k z hk ⟨e1, e2, e3, e4, e5⟩ => by
      obtain ⟨i, b⟩ := z
      simp only at e1 e2 e3 e4 e5
      subst e1
      left
      have hf : pFent l[k] = true := h.e _ (List.getElem_mem hk)
      have hgo : ∀ y : Fent, pFent y = true → y.1 = l[k].1 → y.2.1 = l[k].2.1 → (∀ x ∈ b ++ [y], pFent x = true) ∧ (b ++ [y]).Pairwise lt ∧ (b ++ [y]).length ≤ k + 1 ∧ ∀ x ∈ b ++ [y], ∀ j (hj : j < l.length), k + 1 ≤ j → lt x l[j] := by
        intro y hy q1 q2
        refine ⟨fun x hx => ?_, pair_snoc e3 fun x hx => ?_, by rw [List.length_append]; show b.length + 1 ≤ _; omega, fun x hx j hj hkj => ?_⟩
        · rcases List.mem_append.1 hx with hx | hx
          · exact e2 x hx
          · simp at hx; subst hx; exact hy
        · have := e5 x hx k hk (Nat.le_refl _)
          unfold lt at this ⊢; omega
        · rcases List.mem_append.1 hx with hx | hx
          · exact e5 x hx j hj (by omega)
          · simp at hx; subst hx
            have := hlt k j hk hj (by omega)
            unfold lt at this ⊢; omega
      have ha : ∀ y : Fent, app b [y] = some (b ++ [y]) := fun y => app_small (by show b.length + 1 ≤ _; omega)
      show ∃ y, spec_AgeAll_l0 l (k : Int) b = _ ∧ _
      unfold spec_AgeAll_l0
      rw [dlt (by omega), cond_true, at_nat hk, Option.bind_some, ha, ha, Option.bind_some, Option.bind_some, w64_nat (by omega)]
      cases hs : l[k].2.2.2.2 with
      | true => exact ⟨_, rfl, rfl, hgo _ hf rfl rfl⟩
      | false =>
        rw [cond_false]
        by_cases ha4 : l[k].2.2.2.1 < 4
        · rw [dlt ha4, cond_true]
          refine ⟨_, rfl, rfl, hgo _ ?_ rfl rfl⟩
          unfold pFent at hf ⊢
          simp only [Bool.and_eq_true] at hf
          obtain ⟨f1, f2, f3, f4, f5⟩ := hf
          have f4' := f4
          unfold pIn at f4'
          simp only [Bool.and_eq_true, decide_eq_true_eq] at f4'
          show (pIn l[k].1 1 99 && (pIn l[k].2.1 1 9999 && (pIn l[k].2.2.1 0 7 && (pIn (w64 (l[k].2.2.2.1 + 1)) 0 4 && (!false || _))))) = true
          rw [f1, f2, f3, w64_id (by omega) (by omega)]
          have : pIn (l[k].2.2.2.1 + 1) 0 4 = true := by unfold pIn; rw [decide_eq_true (by omega), decide_eq_true (by omega)]; rfl
          rw [this]; rfl
        · rw [dnlt ha4, cond_false]
          exact ⟨_, rfl, rfl, e2, e3, by show b.length ≤ _; omega, fun x hx j hj hkj => e5 x hx j hj (by omega)⟩)
    (fun z ⟨e1, e2, e3, e4, e5⟩ => by
      obtain ⟨i, b⟩ := z
      simp only at e1 e2 e3 e4 e5
      subst e1
      refine ⟨b, ?_, e2, e3, by omega⟩
      show spec_AgeAll_l0 l _ b = _
      unfold spec_AgeAll_l0
      rw [dnlt (by omega), cond_false]) (x := (0, [])) ⟨rfl, fun x hx => absurd hx List.not_mem_nil, List.Pairwise.nil, Nat.le_refl _, fun x hx => absurd hx List.not_mem_nil⟩
  unfold spec_AgeAll
  rw [hd, Option.bind_some]
  exact ⟨_, rfl, g1, g2, g3⟩
theorem nilF : FB ([] : List Fent) := ⟨fun x hx => absurd hx List.not_mem_nil, List.Pairwise.nil, by simp⟩
theorem fdbD {c : L1Cur} (h : CW c) : ∃ c' l, spec_l8Draw c = some (c', l) ∧ CW c' ∧ FB l := by
  obtain ⟨c0, m, e0, w0, hm⟩ := belowN h (n := 10) (by decide)
  have e0' : spec_l1Below c 10 = some (c0, (m : Int)) := e0
  obtain ⟨d, hd, g1, g2⟩ := loop_inv (step := fun z : Int × List Int × Int × Int × List Fent => spec_l8Draw_l0 z.1 z.2.1 z.2.2.1 z.2.2.2.1 z.2.2.2.2) (fun k z => z.1 = (m : Int) - (k : Int) ∧ CW (z.2.1, z.2.2.1, z.2.2.2.1) ∧ FB z.2.2.2.2) m (fun d => CW (d.1, d.2.1, d.2.2.1) ∧ FB d.2.2.2)
    (fun k z hk ⟨a1, a2, a3⟩ => by
      obtain ⟨i, x, y, s, l⟩ := z
      simp only at a1 a2 a3
      left
      show ∃ y', spec_l8Draw_l0 i x y s l = _ ∧ _
      unfold spec_l8Draw_l0
      have hi : decide (i > 0) = true := decide_eq_true (by omega)
      have hw : w64 (i - 1) = (m : Int) - ((k + 1 : Nat) : Int) := by rw [w64_id (by omega) (by omega)]; omega
      obtain ⟨c1, r1, e1, w1, _⟩ := belowD a2 6
      rw [hi, cond_true, e1, Option.bind_some, hw]
      show ∃ y', cond (r1 == 0) _ (cond (r1 == 1) _ _) = _ ∧ _
      cases r1 == 0 with
      | true =>
        obtain ⟨c2, r2, e2, w2, _⟩ := belowD w1 3
        obtain ⟨c3, r3, e3, w3⟩ := macD w2
        obtain ⟨c4, r4, e4, w4, _⟩ := belowD w3 4
        obtain ⟨y', ok, e5, g5⟩ := staticF a3 (w64 (1 + r2)) r3 r4
        rw [cond_true, e2, Option.bind_some, e3, Option.bind_some, e4, Option.bind_some, e5, Option.bind_some]
        exact ⟨_, rfl, rfl, w4, g5⟩
      | false =>
      cases r1 == 1 with
      | true =>
        obtain ⟨y', e5, g5⟩ := ageF a3
        rw [cond_false, cond_true, e5, Option.bind_some]
        exact ⟨_, rfl, rfl, w1, g5⟩
      | false =>
        obtain ⟨c2, r2, e2, w2, _⟩ := belowD w1 3
        obtain ⟨c3, r3, e3, w3⟩ := macD w2
        obtain ⟨c4, r4, e4, w4, _⟩ := belowD w3 3
        obtain ⟨c5, r5, e5, w5, _⟩ := belowD w4 4
        obtain ⟨y', e6, g6⟩ := learnF a3 (w64 (1 + r2)) (w64 (r3 + r4)) r5
        rw [cond_false, cond_false, e2, Option.bind_some, e3, Option.bind_some, e4, Option.bind_some, e5, Option.bind_some, e6, Option.bind_some]
        exact ⟨_, rfl, rfl, w5, g6⟩)
    (fun z ⟨a1, a2, a3⟩ => by
      obtain ⟨i, x, y, s, l⟩ := z
      simp only at a1 a2 a3
      refine ⟨(x, y, s, l), ?_, a2, a3⟩
      show spec_l8Draw_l0 i x y s l = _
      unfold spec_l8Draw_l0
      have hi : decide (i > 0) = false := decide_eq_false (by omega)
      rw [hi, cond_false]) (x := ((m : Int), c0.1, c0.2.1, c0.2.2, [])) ⟨by simp, w0, nilF⟩
  unfold spec_l8Draw
  rw [e0', Option.bind_some]
  show ∃ c' l, ((loop _ ((m : Int), c0.1, c0.2.1, c0.2.2, [])).bind _) = _ ∧ _
  rw [hd, Option.bind_some]
  exact ⟨_, _, rfl, g1, g2⟩
theorem fdbA {c : L1Cur} (h : CW c) : ∃ c' l, spec_l8Any c = some (c', l) ∧ CW c' ∧ l.length ≤ 100 := by
  obtain ⟨c1, l, e1, w1, g1⟩ := fdbD h
  have hn := g1.n
  obtain ⟨c2, r, e2, w2, _⟩ := belowD w1 12
  unfold spec_l8Any
  rw [e1, Option.bind_some]
  show ∃ c' l', ((spec_l1Below c1 12).bind _) = _ ∧ _
  rw [e2, Option.bind_some]
  show ∃ c' l', cond (r == 0) _ (cond (r == 1) _ _) = _ ∧ _
  cases r == 0 with
  | true =>
    obtain ⟨c3, x3, e3, w3, _⟩ := intD w2 (l := [0, 1, 99, 100]) (by decide)
    obtain ⟨c4, x4, e4, w4, _⟩ := intD w3 (l := [0, 1, 9999]) (by decide)
    obtain ⟨c5, x5, e5, w5, _⟩ := intD w4 (l := [(-1), 7, 8]) (by decide)
    obtain ⟨c6, x6, e6, w6, _⟩ := intD w5 (l := [(-1), 4, 5]) (by decide)
    rw [cond_true, e3, Option.bind_some, e4, Option.bind_some, e5, Option.bind_some, e6, Option.bind_some]
    show ∃ c' l', ((app l [_]).bind _) = _ ∧ _
    rw [app_small (by show l.length + 1 ≤ _; omega), Option.bind_some]
    exact ⟨_, _, rfl, w6, by rw [List.length_append]; show l.length + 1 ≤ 100; omega⟩
  | false =>
  cases r == 1 with
  | true =>
    rw [cond_false, cond_true]
    obtain ⟨d, hd, g1, g2⟩ := loop_inv (step := fun z : Int × List Int × Int × Int × List Fent => spec_l8Any_l1 z.1 z.2.1 z.2.2.1 z.2.2.2.1 z.2.2.2.2) (fun k z => z.1 = (k : Int) ∧ CW (z.2.1, z.2.2.1, z.2.2.2.1) ∧ z.2.2.2.2.length ≤ 12 + k) 13 (fun d => CW (d.1, d.2.1, d.2.2.1) ∧ d.2.2.2.length ≤ 100)
      (fun k z hk ⟨a1, a2, a3⟩ => by
        obtain ⟨i, x, y, s, l⟩ := z
        simp only at a1 a2 a3
        subst a1
        obtain ⟨c3, q, e3, w3, hq⟩ := belowN a2 (n := 3) (by decide)
        have e3' : spec_l1Below (x, y, s) 3 = some (c3, (q : Int)) := e3
        have hs : spec_l8Any_l1 (k : Int) x y s l = cond (decide ((k : Int) < w64 (11 + (q : Int)))) (some (.inl (((k + 1 : Nat) : Int), c3.1, c3.2.1, c3.2.2, l ++ [(50, w64 (100 + (k : Int)), 1, 0, false)]))) (some (.inr (c3.1, c3.2.1, c3.2.2, l))) := by
          unfold spec_l8Any_l1
          rw [e3', Option.bind_some, app_small (by show l.length + 1 ≤ _; omega), Option.bind_some, w64_nat (by omega)]
        show (∃ y', spec_l8Any_l1 (k : Int) x y s l = _ ∧ _) ∨ (∃ v, spec_l8Any_l1 (k : Int) x y s l = _ ∧ _)
        rw [hs]
        cases decide ((k : Int) < w64 (11 + (q : Int))) with
        | true => exact .inl ⟨_, rfl, rfl, w3, by show (l ++ [_]).length ≤ _; rw [List.length_append]; show l.length + 1 ≤ _; omega⟩
        | false => exact .inr ⟨_, rfl, w3, by show l.length ≤ 100; omega⟩)
      (fun z ⟨a1, a2, a3⟩ => by
        obtain ⟨i, x, y, s, l⟩ := z
        simp only at a1 a2 a3
        subst a1
        obtain ⟨c3, q, e3, w3, hq⟩ := belowN a2 (n := 3) (by decide)
        have e3' : spec_l1Below (x, y, s) 3 = some (c3, (q : Int)) := e3
        refine ⟨(c3.1, c3.2.1, c3.2.2, l), ?_, w3, by show l.length ≤ 100; omega⟩
        show spec_l8Any_l1 ((13 : Nat) : Int) x y s l = _
        unfold spec_l8Any_l1
        rw [e3', Option.bind_some, w64_id (n := 11 + (q : Int)) (by omega) (by omega), dnlt (by omega), cond_false]) (x := (0, c2.1, c2.2.1, c2.2.2, l)) ⟨rfl, w2, by show l.length ≤ 12 + 0; omega⟩
    show ∃ c' l', ((loop _ (0, c2.1, c2.2.1, c2.2.2, l)).bind _) = _ ∧ _
    rw [hd, Option.bind_some]
    exact ⟨_, _, rfl, g1, g2⟩
  | false => exact ⟨_, _, rfl, w2, by show l.length ≤ 100; omega⟩
theorem vecA {c : L1Cur} (h : CW c) : ∃ c' v, spec_l7Any c = some (c', v) ∧ CW c' := by
  obtain ⟨c1, v, e1, w1, _⟩ := vecD h
  obtain ⟨c2, r, e2, w2, _⟩ := belowD w1 12
  unfold spec_l7Any
  rw [e1, Option.bind_some]
  show ∃ c' l', ((spec_l1Below c1 12).bind _) = _ ∧ _
  rw [e2, Option.bind_some]
  show ∃ c' l', cond (r == 0) _ (cond (r == 1) _ (cond (r == 2) _ (cond (r == 3) _ _))) = _ ∧ _
  cases r == 0 with
  | true =>
    obtain ⟨c3, x3, e3, w3, _⟩ := intD w2 (l := [0, 99, 100]) (by decide)
    rw [cond_true, e3, Option.bind_some]; exact ⟨_, _, rfl, w3⟩
  | false =>
  cases r == 1 with
  | true =>
    obtain ⟨c3, x3, e3, w3, _⟩ := intD w2 (l := [(-1), 99999, 100000, 100001]) (by decide)
    rw [cond_false, cond_true, e3, Option.bind_some]; exact ⟨_, _, rfl, w3⟩
  | false =>
  cases r == 2 with
  | true =>
    obtain ⟨c3, x3, e3, w3, _⟩ := intD w2 (l := [(-1), 11]) (by decide)
    rw [cond_false, cond_false, cond_true, e3, Option.bind_some]; exact ⟨_, _, rfl, w3⟩
  | false =>
  cases r == 3 with
  | true =>
    obtain ⟨c3, x3, e3, w3, _⟩ := intD w2 (l := [(-1), 7, 8]) (by decide)
    rw [cond_false, cond_false, cond_false, cond_true, e3, Option.bind_some]; exact ⟨_, _, rfl, w3⟩
  | false => exact ⟨_, _, rfl, w2⟩
theorem portsA {c : L1Cur} (h : CW c) : ∃ c' l, spec_l10Any c = some (c', l) ∧ CW c' ∧ l.length ≤ 100 := by
  obtain ⟨c1, p, e1, w1, b1⟩ := belowN h (n := 4) (by decide)
  have e1' : spec_l1Below c 4 = some (c1, (p : Int)) := e1
  have hp : w64 (1 + (p : Int)) = ((p + 1 : Nat) : Int) := by rw [w64_id (by omega) (by omega)]; omega
  obtain ⟨c2, l, e2, w2, l2, _⟩ := portsD w1 (n := p + 1) (by omega)
  obtain ⟨c3, r, e3, w3, _⟩ := belowD w2 12
  have h0 : 0 < l.length := by omega
  have hi : ix l.length 0 = some 0 := ix_nat h0
  have hg : l[0]? = some l[0] := List.getElem?_eq_getElem h0
  unfold spec_l10Any
  rw [e1', Option.bind_some]
  show ∃ c' l', ((spec_l10Draw c1 (w64 (1 + (p : Int)))).bind _) = _ ∧ _
  rw [hp, e2, Option.bind_some]
  show ∃ c' l', ((spec_l1Below c2 12).bind _) = _ ∧ _
  rw [e3, Option.bind_some]
  show ∃ c' l', cond (r == 0) _ (cond (r == 1) _ (cond (r == 2) _ _)) = _ ∧ _
  cases r == 0 with
  | true =>
    obtain ⟨c4, v, e4, w4⟩ := vecA w3
    rw [cond_true, e4, Option.bind_some]
    show ∃ c' l', ((ix l.length 0).bind _) = _ ∧ _
    rw [hi, Option.bind_some]
    show ∃ c' l', ((l[0]?).bind _) = _ ∧ _
    rw [hg, Option.bind_some]
    exact ⟨_, _, rfl, w4, by rw [List.length_set]; show l.length ≤ 100; omega⟩
  | false =>
  cases r == 1 with
  | true =>
    obtain ⟨c4, x4, e4, w4, _⟩ := intD w3 (l := [0, 1000, 1001]) (by decide)
    rw [cond_false, cond_true, e4, Option.bind_some]
    show ∃ c' l', ((ix l.length 0).bind _) = _ ∧ _
    rw [hi, Option.bind_some]
    show ∃ c' l', ((l[0]?).bind _) = _ ∧ _
    rw [hg, Option.bind_some]
    exact ⟨_, _, rfl, w4, by rw [List.length_set]; show l.length ≤ 100; omega⟩
  | false =>
  cases r == 2 with
  | true =>
    rw [cond_false, cond_false, cond_true]
    show ∃ c' l', ((ix l.length 0).bind _) = _ ∧ _
    rw [hi, Option.bind_some]
    show ∃ c' l', ((l[0]?).bind _) = _ ∧ _
    rw [hg, Option.bind_some]
    exact ⟨_, _, rfl, w3, by rw [List.length_set]; show l.length ≤ 100; omega⟩
  | false => exact ⟨_, _, rfl, w3, by show l.length ≤ 100; omega⟩

set_option linter.unusedVariables false
set_option linter.unusedSimpArgs false
structure VS (v : Vtab) (n : Nat) : Prop where
  a : v.1.length ≤ n
  b : v.2.length ≤ 100
  r : ∀ r ∈ v.1, I64 r.2.2
theorem rowS' {v : Vtab} {n : Nat} (hn : n ≤ 1000) (hv : VS v n) {r : Vrow} (hr : I64 r.2.2) : ∃ y, spec_l9Row v r = some y ∧ VS y (2 * n + 1) := by
  have l4 := hv.a
  have l3 := hv.b
  obtain ⟨d, h1, h2, h3⟩ := loop_inv (step := fun z : Bool × Int × List Vrow => spec_l9Row_l0 v r z.1 z.2.1 z.2.2) (fun k z => z.2.1 = (k : Int) ∧ z.2.2.length ≤ 2 * k ∧ ∀ x ∈ z.2.2, I64 x.2.2) v.1.length (fun d => d.2.length ≤ 2 * n ∧ ∀ x ∈ d.2, I64 x.2.2)
    (fun k z hk ⟨e1, e2, e3⟩ => by
      obtain ⟨t, i, b⟩ := z
      simp only at e1 e2 e3
      subst e1
      left
      have hvk : I64 v.1[k].2.2 := hv.r _ (List.getElem_mem hk)
      show ∃ y, spec_l9Row_l0 v r t (k : Int) b = _ ∧ _
      unfold spec_l9Row_l0
      simp only [dlt (show (k : Int) < (v.1.length : Int) by omega), cond_true, at_nat hk, Option.bind_some, w64_nat (show k < 9223372036854775807 by omega), Int.not_lt]
      have ha : ∀ (xs : List Vrow) (y : Vrow), xs.length ≤ 10000 → app xs [y] = some (xs ++ [y]) := fun xs y h => app_small (by show xs.length + 1 ≤ _; omega)
      have key : ∀ (tt : Bool), ((cond (!t) (some (decide (v.1[k].1 ≥ r.1))) (some false)) = some tt → ∃ y : Bool × Int × List Vrow, (cond tt ((app b [r]).bind fun zs37 => cond (v.1[k].1 != r.1) ((app zs37 [v.1[k]]).bind fun zs56 => some (.inl (true, ((k + 1 : Nat) : Int), zs56))) (some (.inl (true, ((k + 1 : Nat) : Int), zs37)))) (cond (v.1[k].1 != r.1) ((app b [v.1[k]]).bind fun zs56_1 => some (.inl (t, ((k + 1 : Nat) : Int), zs56_1))) (some (.inl (t, ((k + 1 : Nat) : Int), b)))) : Option ((Bool × Int × List Vrow) ⊕ (Bool × List Vrow))) = some (.inl y) ∧ y.2.1 = ((k + 1 : Nat) : Int) ∧ y.2.2.length ≤ 2 * (k + 1) ∧ ∀ x ∈ y.2.2, I64 x.2.2) := by
        intro tt _
        cases tt with
        | true =>
          rw [cond_true, ha b r (by omega), Option.bind_some]
          cases v.1[k].1 != r.1 with
          | true =>
            rw [cond_true, ha (b ++ [r]) _ (by simp; omega), Option.bind_some]
            refine ⟨_, rfl, rfl, by simp; omega, fun x hx => ?_⟩
            simp at hx
            rcases hx with hx | rfl | rfl
            · exact e3 x hx
            · exact hr
            · exact hvk
          | false =>
            refine ⟨_, rfl, rfl, by simp; omega, fun x hx => ?_⟩
            simp at hx
            rcases hx with hx | rfl
            · exact e3 x hx
            · exact hr
        | false =>
          rw [cond_false]
          cases v.1[k].1 != r.1 with
          | true =>
            rw [cond_true, ha b _ (by omega), Option.bind_some]
            refine ⟨_, rfl, rfl, by simp; omega, fun x hx => ?_⟩
            simp at hx
            rcases hx with hx | rfl
            · exact e3 x hx
            · exact hvk
          | false => exact ⟨_, rfl, rfl, by show b.length ≤ _; omega, e3⟩
      cases ht : (cond (!t) (some (decide (v.1[k].1 ≥ r.1))) (some false)) with
      | none => cases t <;> cases ht
      | some tt =>
        rw [Option.bind_some]
        exact key tt ht)
    (fun z ⟨e1, e2, e3⟩ => by
      obtain ⟨t, i, b⟩ := z
      simp only at e1 e2 e3
      subst e1
      refine ⟨(t, b), ?_, by show b.length ≤ _; omega, e3⟩
      show spec_l9Row_l0 v r t _ b = _
      unfold spec_l9Row_l0
      rw [dnlt (by omega), cond_false]) (x := (false, 0, [])) ⟨rfl, by simp, fun x hx => absurd hx List.not_mem_nil⟩
  unfold spec_l9Row
  rw [app_small (by show 0 + v.2.length ≤ _; omega), Option.bind_some, h1, Option.bind_some, List.nil_append]
  cases d.1 with
  | true => exact ⟨_, rfl, by show d.2.length ≤ _; omega, l3, h3⟩
  | false =>
    rw [Bool.not_false, cond_true, app_small (by show d.2.length + 1 ≤ _; omega), Option.bind_some]
    refine ⟨_, rfl, by show (d.2 ++ [r]).length ≤ _; simp; omega, l3, fun x hx => ?_⟩
    have hx : x ∈ d.2 ++ [r] := hx
    simp at hx
    rcases hx with hx | rfl
    · exact h3 x hx
    · exact hr
theorem vtabA {c : L1Cur} (h : CW c) : ∃ c' v n, spec_l9Any c = some (c', v, n) ∧ CW c' ∧ VS v 1000 := by
  obtain ⟨c1, p, e1, w1, b1⟩ := belowN h (n := 4) (by decide)
  have e1' : spec_l1Below c 4 = some (c1, (p : Int)) := e1
  have hp : w64 (1 + (p : Int)) = ((p + 1 : Nat) : Int) := by rw [w64_id (by omega) (by omega)]; omega
  obtain ⟨c2, v, e2, w2, hv⟩ := drawV w1 (n := p + 1) (by omega) (by omega)
  obtain ⟨l1, l2, l3, l4⟩ := hv.len
  obtain ⟨c3, r, e3, w3, _⟩ := belowD w2 12
  unfold spec_l9Any
  rw [e1', Option.bind_some]
  show ∃ c' v' n', ((spec_l9Draw c1 (w64 (1 + (p : Int)))).bind _) = _ ∧ _
  rw [hp, e2, Option.bind_some]
  show ∃ c' v' n', ((spec_l1Below c2 12).bind _) = _ ∧ _
  rw [e3, Option.bind_some]
  show ∃ c' v' n', cond (r == 0) _ (cond (r == 1) _ (cond (r == 2) _ (cond (r == 3) _ _))) = _ ∧ _
  cases r == 0 with
  | true =>
    obtain ⟨c4, x4, e4, w4, _⟩ := intD w3 (l := [0, 1, 9, 100]) (by decide)
    obtain ⟨c5, x5, e5, w5, _⟩ := intD w4 (l := [(-1), 0, 1, 64]) (by decide)
    obtain ⟨c6, k6, e6, w6, b6⟩ := belowN w5 (n := 3) (by decide)
    have e6' : spec_l1Below c5 3 = some (c6, (k6 : Int)) := e6
    rw [cond_true, e4, Option.bind_some, e5, Option.bind_some]
    show ∃ c' v' n', ((spec_l1Below c5 3).bind _) = _ ∧ _
    rw [e6', Option.bind_some]
    show ∃ c' v' n', ((app v.1 [_]).bind _) = _ ∧ _
    rw [app_small (by show v.1.length + 1 ≤ _; omega), Option.bind_some]
    refine ⟨_, _, _, rfl, w6, by show (v.1 ++ [_]).length ≤ _; rw [List.length_append]; show v.1.length + 1 ≤ _; omega, by show v.2.length ≤ _; omega, fun x hx => ?_⟩
    have hx : x ∈ v.1 ++ [(x4, x5, (k6 : Int))] := hx
    simp at hx
    rcases hx with hx | rfl
    · exact hv.r x hx
    · show I64 (k6 : Int); exact ⟨by omega, by omega⟩
  | false =>
  cases r == 1 with
  | true =>
    obtain ⟨c4, x4, e4, w4, _⟩ := intD w3 (l := [0, 7]) (by decide)
    have h0 : 0 < v.2.length := by omega
    rw [cond_false, cond_true, e4, Option.bind_some]
    show ∃ c' v' n', ((ix v.2.length 0).bind _) = _ ∧ _
    rw [show ix v.2.length 0 = some 0 from ix_nat h0, Option.bind_some]
    show ∃ c' v' n', ((v.2[0]?).bind _) = _ ∧ _
    rw [List.getElem?_eq_getElem h0, Option.bind_some]
    exact ⟨_, _, _, rfl, w4, by show v.1.length ≤ _; omega, by show (v.2.set 0 x4).length ≤ _; rw [List.length_set]; omega, hv.r⟩
  | false =>
  cases r == 2 with
  | true =>
    obtain ⟨c4, x4, e4, w4, _⟩ := intD w3 (l := [0, 6, 7]) (by decide)
    rw [cond_false, cond_false, cond_true, e4, Option.bind_some]
    exact ⟨_, _, _, rfl, w4, by show v.1.length ≤ _; omega, by show v.2.length ≤ _; omega, hv.r⟩
  | false =>
  cases r == 3 with
  | true =>
    rw [cond_false, cond_false, cond_false, cond_true]
    have hpow : ∀ k, k ≤ 6 → 8 * 2 ^ k ≤ 512 := by
      intro k hk
      have : 2 ^ k ≤ 2 ^ 6 := Nat.pow_le_pow_right (by decide) hk
      omega
    obtain ⟨d, hd, hv2⟩ := loop_inv (step := fun z : Int × List Vrow × List Int => spec_l9Any_l1 z.1 z.2.1 z.2.2) (fun k z => z.1 = (k : Int) ∧ VS z.2 (8 * 2 ^ k - 1)) 6 (fun d => VS d 1000)
      (fun k z hk ⟨a1, a2⟩ => by
        obtain ⟨i, rows, qs⟩ := z
        simp only at a1 a2
        subst a1
        left
        have hk' := hpow k (by omega)
        obtain ⟨y, hy, hy2⟩ := rowS' (by omega) a2 (r := (w64 (10 + (k : Int)), 0, 0)) ⟨by show (-9223372036854775808 : Int) ≤ 0; decide, by show (0 : Int) ≤ 9223372036854775807; decide⟩
        refine ⟨(((k + 1 : Nat) : Int), y), ?_, rfl, ?_⟩
        · show spec_l9Any_l1 (k : Int) rows qs = _
          unfold spec_l9Any_l1
          rw [dlt (by omega), cond_true, hy, Option.bind_some, w64_nat (by omega)]
        · have e : 2 * (8 * 2 ^ k - 1) + 1 = 8 * 2 ^ (k + 1) - 1 := by
            have : 1 ≤ 2 ^ k := Nat.one_le_two_pow
            rw [Nat.pow_succ]; omega
          rw [← e]; exact hy2)
      (fun z ⟨a1, a2⟩ => by
        obtain ⟨i, rows, qs⟩ := z
        simp only at a1 a2
        subst a1
        refine ⟨(rows, qs), ?_, Nat.le_trans a2.a (by decide), a2.b, a2.r⟩
        show spec_l9Any_l1 ((6 : Nat) : Int) rows qs = _
        unfold spec_l9Any_l1
        rw [dnlt (by omega), cond_false]) (x := (0, v.1, v.2)) ⟨rfl, by show v.1.length ≤ 8 * 2 ^ 0 - 1; omega, by show v.2.length ≤ _; omega, hv.r⟩
    show ∃ c' v' n', ((loop _ (0, v.1, v.2)).bind _) = _ ∧ _
    rw [hd, Option.bind_some]
    exact ⟨_, _, _, rfl, w3, hv2⟩
  | false => exact ⟨_, _, _, rfl, w3, by show v.1.length ≤ _; omega, by show v.2.length ≤ _; omega, hv.r⟩
set_option linter.unusedVariables false
set_option linter.unusedSimpArgs false
structure At (m : List Bind) (o : List Int) (j : Nat) : Prop where
  le : j ≤ m.length
  no : ∀ i (hi : i < m.length), i < j → ¬ o < m[i].1
  yes : ∀ i (hi : i < m.length), j ≤ i → o < m[i].1
set_option linter.unusedVariables false
set_option linter.unusedSimpArgs false
set_option linter.unusedVariables false
set_option linter.unusedSimpArgs false
def bOid (o : List Int) (k : Nat) : Bool := match o[k]? with | some x => !(pIn x 0 100000) | none => false
def pOid (o : List Int) : Bool := !((List.range o.length).any (bOid o)) && pIn (o.length : Int) 1 10
theorem oidT {o : List Int} (h : o.length < 9223372036854775807) : impl_OidOk o = some (pOid o) := by
  unfold impl_OidOk pOid
  have e : loop (fun z => impl_OidOk_l0 o z) 0 = some (cond ((List.range o.length).any (bOid o)) (Sum.inr false) (Sum.inl ())) := by
    rw [← all_loop (n := o.length) (c := fun i => (at? o i).bind fun x => (impl_in x 0 100000).bind fun t => some (!t)) (b := bOid o) h (fun k hk => by
      simp only [at_nat hk, Option.bind_some, bOid, List.getElem?_eq_getElem hk, inT])]
    refine loop_ext (fun i => ?_) 0
    unfold impl_OidOk_l0
    simp only [Option.bind_assoc, Option.bind_some]
  rw [e, Option.bind_some]
  cases (List.range o.length).any (bOid o) with
  | true => rfl
  | false => simp only [cond_false, Sum.elim_inl, inT, Option.bind_some, Bool.not_false, Bool.true_and]
theorem oidS : spec_OidOk = impl_OidOk := rfl
theorem clipT (n : Int) : ∃ c, spec_l1Clip n = some c ∧ (c == n) = pIn n (-2147483648) 2147483647 := by
  unfold spec_l1Clip pIn
  by_cases h1 : n > 2147483647
  · refine ⟨_, by rw [decide_eq_true h1]; rfl, ?_⟩
    rw [decide_eq_false (show ¬ n ≤ 2147483647 by omega), Bool.and_false]
    exact beq_eq_false_iff_ne.2 (by omega)
  · by_cases h2 : n < -2147483648
    · refine ⟨_, by rw [decide_eq_false h1, decide_eq_true h2]; rfl, ?_⟩
      rw [decide_eq_false (show ¬ n ≥ -2147483648 by omega), Bool.false_and]
      exact beq_eq_false_iff_ne.2 (by omega)
    · refine ⟨_, by rw [decide_eq_false h1, decide_eq_false h2]; rfl, ?_⟩
      rw [decide_eq_true (show n ≥ -2147483648 by omega), decide_eq_true (show n ≤ 2147483647 by omega), beq_self_eq_true]; rfl
theorem sameNil (l : List Int) : impl_SameOid l [] = some ((l.length : Int) == 0) := by
  cases l with
  | nil => exact eqS_of (n := 0) (eq_loop' (a := []) (by decide))
  | cons x l =>
    unfold impl_SameOid
    have e : (((x :: l).length : Int) != (([] : List Int).length : Int)) = true := by simp; omega
    rw [e, cond_true, beq_eq_false_iff_ne.2 (by simp; omega)]
theorem sameSelf {l : List Int} (h : l.length ≤ M) : impl_SameOid l l = some true := eqS_of (eq_loop' (le32 h))
def pVal (v : Val) : Bool :=
  cond (v.1 == 5 || (v.1 == 128 || v.1 == 130)) (v.2.1 == 0 && (v.2.2.1 == [] && ((v.2.2.2.length : Int) == 0)))
    (cond (v.1 == 2) (pIn v.2.1 (-2147483648) 2147483647 && (v.2.2.1 == [] && ((v.2.2.2.length : Int) == 0)))
      (cond (v.1 == 4) (decide ((v.2.2.1.length : Int) ≤ 20) && (v.2.1 == 0 && ((v.2.2.2.length : Int) == 0)))
        (cond (v.1 == 6) (pOid v.2.2.2 && (v.2.1 == 0 && (v.2.2.1 == []))) false)))
theorem valT {v : Val} (h : v.2.2.2.length ≤ M) : impl_ValOk v = some (pVal v) := by
  obtain ⟨k, n, s, o⟩ := v
  have h' : o.length ≤ 1048576 := h
  have ho : o.length ≤ M := h
  have hb : o.length < 9223372036854775807 := by omega
  unfold impl_ValOk pVal impl_SameVal impl_isInt
  simp only [inT, sameNil, sameSelf ho, oidT hb, Option.bind_some]
  by_cases h2 : k = 2
  · subst h2; cases pIn n (-2147483648) 2147483647 <;> cases s == [] <;> cases (o.length : Int) == 0 <;> simp
  by_cases h4 : k = 4
  · subst h4; cases decide ((s.length : Int) ≤ 20) <;> cases n == 0 <;> cases (o.length : Int) == 0 <;> simp
  by_cases h6 : k = 6
  · subst h6; cases pOid o <;> cases n == 0 <;> cases s == [] <;> simp
  rw [beq_eq_false_iff_ne.2 h2, beq_eq_false_iff_ne.2 h4, beq_eq_false_iff_ne.2 h6]
  by_cases h5 : k = 5
  · subst h5; cases n == 0 <;> cases s == [] <;> cases (o.length : Int) == 0 <;> simp
  by_cases h128 : k = 128
  · subst h128; cases n == 0 <;> cases s == [] <;> cases (o.length : Int) == 0 <;> simp
  by_cases h130 : k = 130
  · subst h130; cases n == 0 <;> cases s == [] <;> cases (o.length : Int) == 0 <;> simp
  rw [beq_eq_false_iff_ne.2 h5, beq_eq_false_iff_ne.2 h128, beq_eq_false_iff_ne.2 h130]
  rfl
theorem valS {v : Val} (h : v.2.2.2.length ≤ M) : spec_ValOk v = some (pVal v) := by
  obtain ⟨k, n, s, o⟩ := v
  have h' : o.length ≤ 1048576 := h
  have hb : o.length < 9223372036854775807 := by omega
  obtain ⟨c, hc, hc2⟩ := clipT n
  unfold spec_ValOk pVal
  simp only [oidS, oidT hb, hc, hc2, Option.bind_some]
  by_cases h5 : k = 5
  · subst h5; cases n == 0 <;> cases s == [] <;> cases (o.length : Int) == 0 <;> simp
  by_cases h128 : k = 128
  · subst h128; cases n == 0 <;> cases s == [] <;> cases (o.length : Int) == 0 <;> simp
  by_cases h130 : k = 130
  · subst h130; cases n == 0 <;> cases s == [] <;> cases (o.length : Int) == 0 <;> simp
  rw [beq_eq_false_iff_ne.2 h5, beq_eq_false_iff_ne.2 h128, beq_eq_false_iff_ne.2 h130]
  by_cases h2 : k = 2
  · subst h2; cases pIn n (-2147483648) 2147483647 <;> cases s == [] <;> cases (o.length : Int) == 0 <;> simp
  by_cases h4 : k = 4
  · subst h4; cases decide ((s.length : Int) ≤ 20) <;> cases n == 0 <;> cases (o.length : Int) == 0 <;> simp
  by_cases h6 : k = 6
  · subst h6; cases pOid o <;> cases n == 0 <;> cases s == [] <;> simp
  rw [beq_eq_false_iff_ne.2 h2, beq_eq_false_iff_ne.2 h4, beq_eq_false_iff_ne.2 h6]
  rfl
def xOk (x : Bind) : Bool := pOid x.1 && pVal x.2
def bX (l : List Bind) (k : Nat) : Bool := match l[k]? with | some x => !(xOk x) | none => false
def pPdu (p : Pdu) : Bool :=
  (!((List.range p.2.2.2.2.length).any (bX p.2.2.2.2)) && decide ((p.2.2.2.2.length : Int) ≤ 10)) &&
  (cond (p.1 == 162 || p.1 == 165) (pIn p.2.2.1 0 1000 && pIn p.2.2.2.1 0 1000)
    (cond (p.1 == 160 || (p.1 == 161 || p.1 == 163)) (p.2.2.1 == 0 && p.2.2.2.1 == 0) false) && pIn p.2.1 (-2147483648) 2147483647)
theorem any_or {n : Nat} {f g : Nat → Bool} : (List.range n).any (fun k => f k || g k) = ((List.range n).any f || (List.range n).any g) := by
  generalize List.range n = l
  induction l with
  | nil => rfl
  | cons a l ih => simp only [List.any_cons, ih]; cases f a <;> cases g a <;> simp
theorem any_ten (n : Nat) : (List.range n).any (fun k => decide ((k : Int) ≥ 10)) = !(decide ((n : Int) ≤ 10)) := by
  by_cases h : (n : Int) ≤ 10
  · rw [decide_eq_true h]
    refine Bool.eq_false_iff.2 fun ha => ?_
    obtain ⟨k, h1, h2⟩ := List.any_eq_true.1 ha
    have := List.mem_range.1 h1
    have := of_decide_eq_true h2
    omega
  · rw [decide_eq_false h]
    exact List.any_eq_true.2 ⟨10, List.mem_range.2 (by omega), by decide⟩
theorem pdu_loop {p : Pdu} (h : PLe M p) : loop (fun z => impl_PduOk_l1 p z) 0 = some (cond (!(decide ((p.2.2.2.2.length : Int) ≤ 10)) || (List.range p.2.2.2.2.length).any (bX p.2.2.2.2)) (Sum.inr false) (Sum.inl ())) := by
  obtain ⟨k, i, e, x, l⟩ := p
  have h' : XsLe M l := h
  have hl : l.length ≤ 1048576 := h'.1
  show loop (fun z => impl_PduOk_l1 (k, i, e, x, l) z) 0 = some (cond (!(decide ((l.length : Int) ≤ 10)) || (List.range l.length).any (bX l)) (Sum.inr false) (Sum.inl ()))
  rw [← any_ten, ← any_or, ← all_loop (n := l.length) (c := fun i => (at? l i).bind fun x => (cond (decide (i ≥ 10)) (some true) ((impl_OidOk x.1).bind fun t => some (!t))).bind fun t => (cond t (some true) ((impl_ValOk x.2).bind fun t => some (!t)))) (b := fun k => decide ((k : Int) ≥ 10) || bX l k) (by omega) (fun k hk => by
    have hx : XLe M l[k] := h'.2 _ (List.getElem_mem hk)
    have h1 : l[k].1.length ≤ 1048576 := hx.1
    have h2 : l[k].2.2.2.2.length ≤ M := hx.2.2
    simp only [at_nat hk, Option.bind_some, bX, List.getElem?_eq_getElem hk, oidT (show l[k].1.length < 9223372036854775807 by omega), valT (v := l[k].2) h2, xOk]
    cases decide ((k : Int) ≥ 10) <;> cases pOid l[k].1 <;> cases pVal l[k].2 <;> rfl)]
  refine loop_ext (fun i => ?_) 0
  unfold impl_PduOk_l1
  simp only [Option.bind_assoc, Option.bind_some]
theorem pdu_loopS {p : Pdu} (h : PLe M p) : loop (fun z => spec_PduOk_l0 p z) 0 = some (cond ((List.range p.2.2.2.2.length).any (bX p.2.2.2.2)) (Sum.inr false) (Sum.inl ())) := by
  obtain ⟨k, i, e, x, l⟩ := p
  have h' : XsLe M l := h
  have hl : l.length ≤ 1048576 := h'.1
  show loop (fun z => spec_PduOk_l0 (k, i, e, x, l) z) 0 = some (cond ((List.range l.length).any (bX l)) (Sum.inr false) (Sum.inl ()))
  rw [← all_loop (n := l.length) (c := fun i => (at? l i).bind fun x => (spec_OidOk x.1).bind fun t => (cond (!t) (some true) ((at? l i).bind fun x => (spec_ValOk x.2).bind fun t => some (!t)))) (b := bX l) (by omega) (fun k hk => by
    have hx : XLe M l[k] := h'.2 _ (List.getElem_mem hk)
    have h1 : l[k].1.length ≤ 1048576 := hx.1
    have h2 : l[k].2.2.2.2.length ≤ M := hx.2.2
    simp only [at_nat hk, Option.bind_some, bX, List.getElem?_eq_getElem hk, oidS, oidT (show l[k].1.length < 9223372036854775807 by omega), valS (v := l[k].2) h2, xOk]
    cases pOid l[k].1 <;> cases pVal l[k].2 <;> rfl)]
  refine loop_ext (fun i => ?_) 0
  unfold spec_PduOk_l0
  simp only [Option.bind_assoc, Option.bind_some]
theorem pduT {p : Pdu} (h : PLe M p) : impl_PduOk p = some (pPdu p) := by
  have e0 := pdu_loop h
  have e1 : loop (fun z => impl_PduOk_l1_1 p z) 0 = _ := e0
  have e2 : loop (fun z => impl_PduOk_l1_2 p z) 0 = _ := e0
  have e3 : loop (fun z => impl_PduOk_l1_3 p z) 0 = _ := e0
  have e4 : loop (fun z => impl_PduOk_l1_4 p z) 0 = _ := e0
  have e5 : loop (fun z => impl_PduOk_l1_5 p z) 0 = _ := e0
  have e6 : loop (fun z => impl_PduOk_l1_6 p z) 0 = _ := e0
  have e7 : loop (fun z => impl_PduOk_l1_7 p z) 0 = _ := e0
  have e8 : loop (fun z => impl_PduOk_l1_8 p z) 0 = _ := e0
  unfold impl_PduOk pPdu impl_isInt
  rw [e0, e1, e2, e3, e4, e5, e6, e7, e8]
  simp only [inT, Option.bind_some]
  generalize (List.range p.2.2.2.2.length).any (bX p.2.2.2.2) = u
  generalize decide ((p.2.2.2.2.length : Int) ≤ 10) = w
  generalize pIn p.2.1 (-2147483648) 2147483647 = x
  generalize p.2.2.1 = e
  generalize p.2.2.2.1 = i
  generalize p.1 = k
  by_cases h0 : k = 160
  · subst h0
    have b1 : (e != 0) = !(e == 0) := rfl
    have b2 : (i != 0) = !(i == 0) := rfl
    rw [b1, b2]
    cases e == 0 <;> cases i == 0 <;> cases u <;> cases w <;> cases x <;> rfl
  by_cases h1 : k = 161
  · subst h1
    have b1 : (e != 0) = !(e == 0) := rfl
    have b2 : (i != 0) = !(i == 0) := rfl
    rw [b1, b2]
    cases e == 0 <;> cases i == 0 <;> cases u <;> cases w <;> cases x <;> rfl
  by_cases h3 : k = 163
  · subst h3
    have b1 : (e != 0) = !(e == 0) := rfl
    have b2 : (i != 0) = !(i == 0) := rfl
    rw [b1, b2]
    cases e == 0 <;> cases i == 0 <;> cases u <;> cases w <;> cases x <;> rfl
  by_cases h2 : k = 162
  · subst h2; cases pIn e 0 1000 <;> cases pIn i 0 1000 <;> cases u <;> cases w <;> cases x <;> rfl
  by_cases h5 : k = 165
  · subst h5; cases pIn e 0 1000 <;> cases pIn i 0 1000 <;> cases u <;> cases w <;> cases x <;> rfl
  rw [beq_eq_false_iff_ne.2 h0, beq_eq_false_iff_ne.2 h1, beq_eq_false_iff_ne.2 h2, beq_eq_false_iff_ne.2 h3, beq_eq_false_iff_ne.2 h5]
  cases u <;> cases w <;> rfl
theorem pduS {p : Pdu} (h : PLe M p) : spec_PduOk p = some (pPdu p) := by
  obtain ⟨c, hc, hc2⟩ := clipT p.2.1
  unfold spec_PduOk pPdu spec_l4Kind
  rw [pdu_loopS h]
  simp only [inS, hc, hc2, Option.bind_some]
  generalize (List.range p.2.2.2.2.length).any (bX p.2.2.2.2) = u
  generalize decide ((p.2.2.2.2.length : Int) ≤ 10) = w
  generalize pIn p.2.1 (-2147483648) 2147483647 = x
  generalize p.2.2.1 = e
  generalize p.2.2.2.1 = i
  generalize p.1 = k
  have b1 : (e != 0) = !(e == 0) := rfl
  have b2 : (i != 0) = !(i == 0) := rfl
  rw [b1, b2]
  have z1 : (e == 0) = true → pIn e 0 1000 = true := fun h => by rw [eq_of_beq h]; rfl
  have z2 : (i == 0) = true → pIn i 0 1000 = true := fun h => by rw [eq_of_beq h]; rfl
  by_cases h2 : k = 162
  · subst h2; cases pIn e 0 1000 <;> cases pIn i 0 1000 <;> cases u <;> cases w <;> cases x <;> rfl
  by_cases h5 : k = 165
  · subst h5; cases pIn e 0 1000 <;> cases pIn i 0 1000 <;> cases u <;> cases w <;> cases x <;> rfl
  have n2 : (k != 162) = true := bne_iff_ne.2 h2
  have n5 : (k != 165) = true := bne_iff_ne.2 h5
  rw [n2, n5, beq_eq_false_iff_ne.2 h2, beq_eq_false_iff_ne.2 h5]
  cases he : e == 0 with
  | false => cases hi : i == 0 <;> cases u <;> cases w <;> cases x <;> cases k == 160 <;> cases k == 161 <;> cases k == 163 <;> rfl
  | true =>
    rw [z1 he]
    cases hi : i == 0 with
    | false => cases u <;> cases w <;> cases x <;> cases k == 160 <;> cases k == 161 <;> cases k == 163 <;> rfl
    | true =>
      rw [z2 hi]
      cases u <;> cases w <;> cases x <;> cases k == 160 <;> cases k == 161 <;> cases k == 163 <;> rfl
set_option linter.unusedVariables false
set_option linter.unusedSimpArgs false
set_option linter.unusedVariables false
set_option linter.unusedSimpArgs false
set_option linter.unusedVariables false
set_option linter.unusedSimpArgs false
set_option linter.unusedVariables false
set_option linter.unusedSimpArgs false
structure SOk (b : Bridge) : Prop where
  id : pIn b.1 1 99 = true
  name : b.2.1.length ≤ 10
  n1 : 1 ≤ b.2.2.1.length
  n6 : b.2.2.1.length ≤ 6
  p : ∀ x ∈ b.2.2.1, pPt x = true
  f : pFdb b.2.2.2.1 = true
  c : pCounts b = true
  q : b.2.2.2.2.2.1.length = b.2.2.1.length
  v : b.2.2.2.2.1.length ≤ 6
  s : b.2.2.2.2.1.Pairwise fun r s => r.1 < s.1
  i : ∀ r ∈ b.2.2.2.2.1, pIn r.1 1 99 = true
  h : ∀ r ∈ b.2.2.2.2.1, -9223372036854775808 ≤ r.2.2 ∧ r.2.2 ≤ 9223372036854775807
theorem SOk.f12 {b : Bridge} (h : SOk b) : b.2.2.2.1.length ≤ 12 := by
  have hf := h.f
  unfold pFdb at hf
  simp only [Bool.and_eq_true, decide_eq_true_eq] at hf
  omega
theorem SOk.le {b : Bridge} (h : SOk b) : BLe M b := by
  have h1 := h.name; have h2 := h.n6; have h3 := h.f12; have h4 := h.v; have h5 := h.q
  have hM : M = 1048576 := rfl
  exact ⟨by omega, by omega, by omega, by omega, by omega⟩
set_option linter.unusedVariables false
set_option linter.unusedSimpArgs false
theorem SOk.rows {b : Bridge} (h : SOk b) {R : List Vrow} (h1 : R.length ≤ 6) (h2 : R.Pairwise fun r s => r.1 < s.1) (h3 : ∀ x ∈ R, pIn x.1 1 99 = true) (h4 : ∀ x ∈ R, -9223372036854775808 ≤ x.2.2 ∧ x.2.2 ≤ 9223372036854775807) :
    SOk (b.1, b.2.1, b.2.2.1, b.2.2.2.1, R, b.2.2.2.2.2.1, b.2.2.2.2.2.2.1, b.2.2.2.2.2.2.2.1, b.2.2.2.2.2.2.2.2.1, b.2.2.2.2.2.2.2.2.2.1, b.2.2.2.2.2.2.2.2.2.2) :=
  ⟨h.id, h.name, h.n1, h.n6, h.p, h.f, h.c, h.q, h1, h2, h3, h4⟩
theorem ports6 {b : Bridge} (h : SOk b) : pIn (b.2.2.1.length : Int) 1 6 = true := by
  have h1 := h.n1; have h2 := h.n6
  unfold pIn
  rw [decide_eq_true (by omega), decide_eq_true (by omega)]; rfl
set_option linter.unusedVariables false
set_option linter.unusedSimpArgs false
theorem FB.sub {l m : List Fent} (h : FB l) (hs : m.Sublist l) : FB m :=
  ⟨fun x hx => h.e x (hs.subset hx), h.o.sublist hs, Nat.le_trans hs.length_le h.n⟩
theorem SOk.ok {b : Bridge} (h : SOk b) (hv : pVtab (b.2.2.2.2.1, b.2.2.2.2.2.1) (b.2.2.1.length : Int) = true) : pBridge b = true := by
  unfold pBridge
  have h1 : (List.range b.2.2.1.length).any (bPt b.2.2.1) = false := by
    rw [List.any_eq_false]
    intro k hk
    have hk := List.mem_range.1 hk
    unfold bPt
    simp [List.getElem?_eq_getElem hk, h.p _ (List.getElem_mem hk)]
  have h2 := h.name
  rw [h1, h.id, h.f, hv, h.c, ports6 h, decide_eq_false (show ¬ (b.2.1.length : Int) > 10 by omega)]; rfl
set_option linter.unusedVariables false
set_option linter.unusedSimpArgs false
set_option linter.unusedVariables false
set_option linter.unusedSimpArgs false
theorem BOk.le {b : Bridge} (h : BOk b) : BLe M b := by
  obtain ⟨v1, v2, v3, v4⟩ := h.vt.len
  have h1 := h.name; have h2 := h.n6; have h3 := h.f12
  have v3' : b.2.2.2.2.2.1.length = b.2.2.1.length := v3
  have v4' : b.2.2.2.2.1.length ≤ 6 := v4
  have hM : M = 1048576 := rfl
  exact ⟨by omega, by omega, by omega, by omega, by omega⟩
theorem strLen {x : List UInt8} (h : x ∈ ([[116, 101, 110, 45, 98, 121, 116, 101, 115, 45], [101, 108, 101, 118, 101, 110, 45, 98, 121, 116, 101]] : List (List UInt8))) : x.length ≤ 11 := by
  simp only [List.mem_cons, List.not_mem_nil, or_false] at h
  rcases h with rfl | rfl <;> decide
theorem anyL {c : L1Cur} (h : CW c) : ∃ c' b, spec_l11Any c = some (c', b) ∧ CW c' ∧ BWf b ∧ BLe M b := by
  obtain ⟨c1, b, e1, w1, hb, hbp⟩ := bridgeD h
  obtain ⟨n1, n2, n3, n4, n5⟩ := (bok hb hbp).le
  obtain ⟨c2, r, e2, w2, _⟩ := belowD w1 16
  unfold spec_l11Any
  rw [e1, Option.bind_some]
  show ∃ c' b', ((spec_l1Below c1 16).bind _) = _ ∧ _
  rw [e2, Option.bind_some]
  show ∃ c' b', cond (r == 0) _ (cond (r == 1) _ (cond (r == 2) _ (cond (r == 3) _ (cond (r == 4) _ (cond (r == 5) _ _))))) = _ ∧ _
  cases r == 0 with
  | true =>
    obtain ⟨c3, x, e3, w3, _⟩ := intD w2 (l := [0, 99, 100]) (by decide)
    rw [cond_true, e3, Option.bind_some]
    exact ⟨_, _, rfl, w3, ⟨hb.p, hb.f, hb.v, hb.q, hb.r⟩, n1, n2, n3, n4, n5⟩
  | false =>
  cases r == 1 with
  | true =>
    obtain ⟨c3, x, e3, w3, hx⟩ := strD w2 (l := [[116, 101, 110, 45, 98, 121, 116, 101, 115, 45], [101, 108, 101, 118, 101, 110, 45, 98, 121, 116, 101]]) (by decide)
    rw [cond_false, cond_true, e3, Option.bind_some]
    exact ⟨_, _, rfl, w3, ⟨hb.p, hb.f, hb.v, hb.q, hb.r⟩, (by have := strLen hx; show x.length ≤ 1048576; omega), n2, n3, n4, n5⟩
  | false =>
  cases r == 2 with
  | true =>
    obtain ⟨c3, x, e3, w3, hx⟩ := portsA w2
    rw [cond_false, cond_false, cond_true, e3, Option.bind_some]
    exact ⟨_, _, rfl, w3, ⟨by show x.length < _; omega, hb.f, hb.v, hb.q, hb.r⟩, n1, (by show x.length ≤ 1048576; omega), n3, n4, n5⟩
  | false =>
  cases r == 3 with
  | true =>
    obtain ⟨c3, x, e3, w3, hx⟩ := fdbA w2
    rw [cond_false, cond_false, cond_false, cond_true, e3, Option.bind_some]
    exact ⟨_, _, rfl, w3, ⟨hb.p, by show x.length < _; omega, hb.v, hb.q, hb.r⟩, n1, n2, (by show x.length ≤ 1048576; omega), n4, n5⟩
  | false =>
  cases r == 4 with
  | true =>
    obtain ⟨c3, x, n, e3, w3, hx⟩ := vtabA w2
    have ha := hx.a
    have hb' := hx.b
    rw [cond_false, cond_false, cond_false, cond_false, cond_true, e3, Option.bind_some]
    exact ⟨_, _, rfl, w3, ⟨hb.p, hb.f, by show x.1.length < _; omega, by show x.2.length < _; omega, hx.r⟩, n1, n2, n3, (by show x.1.length ≤ 1048576; omega), (by show x.2.length ≤ 1048576; omega)⟩
  | false =>
  cases r == 5 with
  | true =>
    obtain ⟨c3, x, e3, w3, _⟩ := intD w2 (l := [(-1), 1000000, 1000001]) (by decide)
    rw [cond_false, cond_false, cond_false, cond_false, cond_false, cond_true, e3, Option.bind_some]
    exact ⟨_, _, rfl, w3, ⟨hb.p, hb.f, hb.v, hb.q, hb.r⟩, n1, n2, n3, n4, n5⟩
  | false => exact ⟨_, _, rfl, w2, hb, n1, n2, n3, n4, n5⟩

def Dr {α : Type} (P : α → Prop) (o : Option (L1Cur × α)) : Prop := ∃ c x, o = some (c, x) ∧ CW c ∧ P x
theorem Dr.cond {α : Type} {P : α → Prop} {a b : Option (L1Cur × α)} {t : Bool} (ha : Dr P a) (hb : Dr P b) : Dr P (cond t a b) := by cases t <;> assumption
theorem Dr.bind {α β : Type} {Q : α → Prop} {P : β → Prop} {o : Option (L1Cur × α)} {f : L1Cur × α → Option (L1Cur × β)} (h : Dr Q o) (k : ∀ c x, CW c → Q x → Dr P (f (c, x))) : Dr P (o.bind f) := by
  obtain ⟨c, x, rfl, hc, hx⟩ := h
  exact k c x hc hx
theorem Dr.some {α : Type} {P : α → Prop} {c : L1Cur} {x : α} (hc : CW c) (hx : P x) : Dr P (some (c, x)) := ⟨c, x, rfl, hc, hx⟩
theorem drBelow {c : L1Cur} (h : CW c) (n : Int) : Dr (fun r : Int => 0 ≤ r ∧ (1 ≤ n → r < n)) (spec_l1Below c n) := by
  obtain ⟨c', r, e, w, h1, h2⟩ := belowD h n; exact ⟨c', r, e, w, h1, h2⟩
theorem drInt {c : L1Cur} (h : CW c) {l : List Int} (hl : 1 ≤ l.length) : Dr (fun r : Int => r ∈ l) (spec_l1Int c l) := by
  obtain ⟨c', r, e, w, h1⟩ := intD h hl; exact ⟨c', r, e, w, h1⟩
theorem drStr {c : L1Cur} (h : CW c) {l : List (List UInt8)} (hl : 1 ≤ l.length) : Dr (fun r : List UInt8 => r ∈ l) (spec_l1Str c l) := by
  obtain ⟨c', r, e, w, h1⟩ := strD h hl; exact ⟨c', r, e, w, h1⟩
theorem drOid {c : L1Cur} (h : CW c) : Dr (fun o : List Int => Nm o) (spec_l2Draw c) := by
  obtain ⟨c', r, e, w, h1⟩ := oidD h; exact ⟨c', r, e, w, h1⟩
theorem drNum {c : L1Cur} (h : CW c) : Dr (fun _ : Int => True) (spec_l1Num c) := by
  unfold spec_l1Num
  refine Dr.bind (drBelow h 1000) fun c x hc _ => ?_
  obtain ⟨c', r, e, w, _⟩ := intD hc (l := [0, 1, (-1), 127, 128, (-128), (-129), 255, 256, 32767, 32768, (-32769), 8388608, 2147483647, (-2147483648), 2147483648, (-2147483649), 9223372036854775807, (-9223372036854775808), x]) (by simp)
  simp only [e]
  exact ⟨c', r, rfl, w, trivial⟩
def VCl (v : Val) : Prop := (v.1 = 2 → v.2.2.1 = [] ∧ v.2.2.2 = []) ∧ (v.1 = 4 → v.2.1 = 0 ∧ v.2.2.2 = [])
theorem vcl2 (n : Int) : VCl (2, n, [], []) := ⟨fun _ => ⟨rfl, rfl⟩, fun h => absurd (show (2 : Int) = 4 from h) (by decide)⟩
theorem vcl4 (s : List UInt8) : VCl (4, 0, s, []) := ⟨fun h => absurd (show (4 : Int) = 2 from h) (by decide), fun _ => ⟨rfl, rfl⟩⟩
theorem vcl6 (o : List Int) : VCl (6, 0, [], o) := ⟨fun h => absurd (show (6 : Int) = 2 from h) (by decide), fun h => absurd (show (6 : Int) = 4 from h) (by decide)⟩
theorem vclK (k : Int) : VCl (k, 0, [], []) := ⟨fun _ => ⟨rfl, rfl⟩, fun _ => ⟨rfl, rfl⟩⟩
def VSm (v : Val) : Prop := v.2.2.1.length ≤ 100 ∧ v.2.2.2.length ≤ 1000 ∧ VCl v
theorem clipX (n : Int) : ∃ r, spec_l1Clip n = some r := by
  unfold spec_l1Clip
  cases decide (n > 2147483647) <;> cases decide (n < (-2147483648)) <;> exact ⟨_, rfl⟩
theorem memLen {x : List UInt8} {l : List (List UInt8)} {n : Nat} (h : x ∈ l) (hl : ∀ y ∈ l, y.length ≤ n) : x.length ≤ n := hl x h
theorem drVal {c : L1Cur} (h : CW c) : Dr VSm (spec_l3Draw c) := by
  unfold spec_l3Draw
  refine Dr.bind (drBelow h 6) fun c x hc _ => ?_
  have hn : ∀ c, CW c → Dr VSm ((spec_l1Num c).bind fun t12 => (spec_l1Clip t12.2).bind fun t13 => (spec_l3Int t13).bind fun t14 => some (t12.1, t14)) := fun c hc => by
    refine Dr.bind (drNum hc) fun c x hc _ => ?_
    obtain ⟨r, hr⟩ := clipX x
    simp only [hr, Option.bind_some, spec_l3Int]
    exact Dr.some hc ⟨by simp, by simp, vcl2 _⟩
  have hs : ∀ c, CW c → Dr VSm ((spec_l1Str c ([[], [97], [121, 97, 114, 100], [0]] : List (List UInt8))).bind fun t19 => some (t19.1, (4, 0, t19.2, []))) := fun c hc => by
    refine Dr.bind (drStr hc (by decide)) fun c x hc hx => ?_
    exact Dr.some hc ⟨Nat.le_trans (memLen (n := 4) hx (by decide)) (by decide), by simp, vcl4 _⟩
  have ho : ∀ c, CW c → Dr VSm ((spec_l2Draw c).bind fun t24 => some (t24.1, (6, 0, [], t24.2))) := fun c hc => by
    refine Dr.bind (drOid hc) fun c x hc hx => ?_
    exact Dr.some hc ⟨by simp, by have := hx.n10; show x.length ≤ 1000; omega, vcl6 _⟩
  have hi : ∀ c, CW c → Dr VSm ((spec_l1Int c ([128, 130] : List Int)).bind fun t28 => some (t28.1, (t28.2, 0, [], []))) := fun c hc => by
    refine Dr.bind (drInt hc (by decide)) fun c x hc hx => ?_
    exact Dr.some hc ⟨by simp, by simp, vclK _⟩
  repeat' (first | apply Dr.cond | exact Dr.some hc ⟨by simp, by simp, vclK _⟩ | exact hn c hc | exact hs c hc | exact ho c hc | exact hi c hc)
def XSm (x : Bind) : Prop := x.1.length ≤ 1000 ∧ VSm x.2
theorem XSm.le {x : Bind} (h : XSm x) : XLe M x := by
  have hM : M = 1048576 := rfl
  obtain ⟨h1, h2, h3, _⟩ := h
  exact ⟨by omega, by omega, by omega⟩
set_option linter.unusedVariables false
set_option linter.unusedSimpArgs false
def intB (m : Int) : List Int := if pIn m (-128) 127 then [m % 256] else if pIn m (-32768) 32767 then [m / 256 % 256, m % 256] else if pIn m (-8388608) 8388607 then [m / 65536 % 256, m / 256 % 256, m % 256] else [m / 16777216 % 256, m / 65536 % 256, m / 256 % 256, m % 256]
theorem w8 (x : Int) : IntKind.u8.wrap x = x % 256 := rfl
theorem pIn_true {n a b : Int} (h : pIn n a b = true) : a ≤ n ∧ n ≤ b := by
  unfold pIn at h
  simp only [Bool.and_eq_true, decide_eq_true_eq] at h
  omega
set_option linter.unusedVariables false
set_option linter.unusedSimpArgs false
def Byt (b : List Int) : Prop := ∀ x ∈ b, 0 ≤ x ∧ x ≤ 255
def tlvL (t : Int) (body : List Int) : List Int := t :: ((if body.length ≥ 128 then [129, (body.length : Int)] else [(body.length : Int)]) ++ body)
structure Part (b : List Int) (at' : Int) (t : Int) (body : List Int) (next : Int) : Prop where
  ex : ∃ pre rest, b = pre ++ (tlvL t body ++ rest) ∧ at' = (pre.length : Int) ∧ next = ((pre.length + (tlvL t body).length : Nat) : Int)
  n : body.length ≤ 250
  t : pIn t 0 255 = true
  b : Byt body
set_option linter.unusedVariables false
set_option linter.unusedSimpArgs false
def sgn (x : Int) : Int := if x > 127 then x - 256 else x
theorem i8 {x : Int} (hx : 0 ≤ x ∧ x ≤ 255) : w64 (IntKind.i8.wrap x) = sgn x := by
  have : IntKind.i8.wrap x = sgn x := by
    show (let m := x % 256; if (true && decide (m ≥ 128)) = true then m - 256 else m) = _
    unfold sgn
    simp only [Bool.true_and, decide_eq_true_eq]
    split <;> split <;> omega
  rw [this]
  unfold sgn
  split <;> exact w64_id (by omega) (by omega)
set_option linter.unusedVariables false
set_option linter.unusedSimpArgs false
def grp (n : Int) : List Int := if n ≤ 127 then [n] else if n ≤ 16383 then [n / 128 + 128, n % 128] else if n ≤ 2097151 then [n / 16384 + 128, n / 128 % 128 + 128, n % 128] else [n / 2097152 + 128, n / 16384 % 128 + 128, n / 128 % 128 + 128, n % 128]
def oidB (o : List Int) : List Int := o.flatMap grp
theorem grp_len3 {n : Int} (h : n ≤ 100000) : (grp n).length ≤ 3 := by unfold grp; split <;> (try split) <;> (try split) <;> simp <;> omega
theorem oidB_len {o : List Int} (h : ∀ x ∈ o, x ≤ 100000) : (oidB o).length ≤ 3 * o.length := by
  induction o with
  | nil => simp [oidB]
  | cons x t ih =>
    have h1 := ih fun y hy => h y (List.mem_cons_of_mem _ hy)
    have h2 := grp_len3 (h x (by simp))
    unfold oidB at h1 ⊢
    rw [List.flatMap_cons, List.length_append, List.length_cons]; omega
set_option linter.unusedVariables false
set_option linter.unusedSimpArgs false
set_option linter.unusedVariables false
set_option linter.unusedSimpArgs false
def OidR (o : List Int) : Prop := 1 ≤ o.length ∧ o.length ≤ 10 ∧ ∀ x ∈ o, 0 ≤ x ∧ x ≤ 100000
set_option linter.unusedVariables false
set_option linter.unusedSimpArgs false
theorem oidR_of {o : List Int} (h : pOid o = true) : OidR o := by
  unfold pOid at h
  rw [Bool.and_eq_true, Bool.not_eq_true'] at h
  have h1 := pIn_true h.2
  refine ⟨by omega, by omega, fun x hx => ?_⟩
  obtain ⟨k, hk, rfl⟩ := List.getElem_of_mem hx
  have := List.any_eq_false.1 h.1 k (List.mem_range.2 hk)
  unfold bOid at this
  simp only [List.getElem?_eq_getElem hk] at this
  cases hp : pIn o[k] 0 100000 with
  | true => exact pIn_true hp
  | false => rw [hp] at this; exact absurd rfl this
set_option linter.unusedVariables false
set_option linter.unusedSimpArgs false
def valB (v : Val) : List Int := cond (v.1 == 2) (intB v.2.1) (cond (v.1 == 4) (intsOf v.2.2.1) (cond (v.1 == 6) (oidB v.2.2.2) []))
theorem oid_len {o : List Int} (h : pOid o = true) : o.length ≤ 10 := (oidR_of h).2.1
set_option linter.unusedVariables false
set_option linter.unusedSimpArgs false
theorem Part.next {b : List Int} {i t : Int} {body : List Int} {next : Int} (h : Part b i t body next) : 0 ≤ next ∧ next ≤ (b.length : Int) := by
  obtain ⟨pre, rest, e1, e2, e3⟩ := h.ex
  have := congrArg List.length e1
  rw [List.length_append, List.length_append] at this
  omega
set_option linter.unusedVariables false
set_option linter.unusedSimpArgs false
theorem intB_len (n : Int) : (intB n).length ≤ 4 := by unfold intB; split <;> (try split) <;> (try split) <;> simp
theorem pVal_len {v : Val} (h : pVal v = true) : (valB v).length ≤ 30 ∧ pIn v.1 0 255 = true ∧ v.2.2.2.length ≤ 10 ∧ v.2.2.1.length ≤ 20 := by
  obtain ⟨k, n, s, o⟩ := v
  have inn : ∀ {x : Int}, 0 ≤ x → x ≤ 255 → pIn x 0 255 = true := fun h1 h2 => by unfold pIn; rw [decide_eq_true h1, decide_eq_true h2]; rfl
  unfold pVal at h
  simp only at h
  unfold valB
  simp only
  by_cases h1 : (k == 5 || (k == 128 || k == 130)) = true
  · rw [h1, cond_true] at h
    simp only [Bool.and_eq_true, beq_iff_eq] at h
    simp only [Bool.or_eq_true, beq_iff_eq] at h1
    obtain ⟨_, rfl, ho⟩ := h
    rcases h1 with rfl | rfl | rfl <;> exact ⟨by simp, by decide, by omega, by simp⟩
  · have h1' : (k == 5 || (k == 128 || k == 130)) = false := by simpa using h1
    rw [h1', cond_false] at h
    by_cases h2 : k = 2
    · subst h2
      simp only [show ((2 : Int) == 2) = true from rfl, cond_true, Bool.and_eq_true, beq_iff_eq] at h ⊢
      obtain ⟨_, rfl, ho⟩ := h
      have := intB_len n
      exact ⟨by omega, by decide, by omega, by simp⟩
    rw [beq_eq_false_iff_ne.2 h2, cond_false] at h ⊢
    by_cases h4 : k = 4
    · subst h4
      simp only [show ((4 : Int) == 4) = true from rfl, cond_true, Bool.and_eq_true, beq_iff_eq, decide_eq_true_eq] at h ⊢
      obtain ⟨h5, _, ho⟩ := h
      exact ⟨by unfold intsOf; rw [List.length_map]; omega, by decide, by omega, by omega⟩
    rw [beq_eq_false_iff_ne.2 h4, cond_false] at h ⊢
    by_cases h6 : k = 6
    · subst h6
      simp only [show ((6 : Int) == 6) = true from rfl, cond_true, Bool.and_eq_true, beq_iff_eq] at h ⊢
      obtain ⟨ho, _, rfl⟩ := h
      obtain ⟨o1, o2, o3⟩ := oidR_of ho
      have := oidB_len (o := o) fun x hx => (o3 x hx).2
      exact ⟨by omega, by decide, by omega, by simp⟩
    · rw [beq_eq_false_iff_ne.2 h6, cond_false] at h
      cases h
set_option linter.unusedVariables false
set_option linter.unusedSimpArgs false
theorem Part.cons {b P s : List Int} {i t : Int} {x : List Int} {next : Int} (h : Part b i t x next) (e : b = P ++ s) (hi : i = (P.length : Int)) : ∃ s', b = (P ++ tlvL t x) ++ s' ∧ next = ((P ++ tlvL t x).length : Int) := by
  obtain ⟨pre, rest, e1, e2, e3⟩ := h.ex
  have hl : pre.length = P.length := by omega
  obtain ⟨q1, q2⟩ := List.append_inj (e1.symm.trans e) hl
  subst q1
  exact ⟨rest, by rw [e1, List.append_assoc], by rw [e3, List.length_append]⟩
theorem bind_small {x : Bind} (h : xOk x = true) : XLe M x := by
  unfold xOk at h
  rw [Bool.and_eq_true] at h
  obtain ⟨_, _, l3, l4⟩ := pVal_len h.2
  have := oid_len h.1
  have hM : M = 1048576 := rfl
  exact ⟨by omega, by omega, by omega⟩
set_option linter.unusedVariables false
set_option linter.unusedSimpArgs false
theorem PLe.of {p : Pdu} (h : ∀ x ∈ p.2.2.2.2, xOk x = true) (h2 : p.2.2.2.2.length ≤ 11) : PLe M p := ⟨by show _ ≤ 1048576; omega, fun x hx => bind_small (h x hx)⟩
set_option linter.unusedVariables false
set_option linter.unusedSimpArgs false
set_option linter.unusedVariables false
set_option linter.unusedSimpArgs false
def shr (f : List Bind → Bool) : Nat → List Bind → Option (List Bind)
  | 0, _ => none
  | n + 1, l => if f (l.take n) = true then some (l.take n) else shr f n (l.take n)
set_option linter.unusedVariables false
set_option linter.unusedSimpArgs false
set_option linter.unusedVariables false
set_option linter.unusedSimpArgs false
set_option linter.unusedVariables false
set_option linter.unusedSimpArgs false
set_option linter.unusedVariables false
set_option linter.unusedSimpArgs false
def hdB (w : List UInt8) : List Int := tlvL 2 (intB 1) ++ tlvL 4 (intsOf w)
set_option linter.unusedVariables false
set_option linter.unusedSimpArgs false
theorem pPdu_of {p : Pdu} (hx : ∀ x ∈ p.2.2.2.2, xOk x = true) (hn : p.2.2.2.2.length ≤ 10) (hi : pIn p.2.1 (-2147483648) 2147483647 = true)
    (hk : (cond (p.1 == 162 || p.1 == 165) (pIn p.2.2.1 0 1000 && pIn p.2.2.2.1 0 1000) (cond (p.1 == 160 || (p.1 == 161 || p.1 == 163)) (p.2.2.1 == 0 && p.2.2.2.1 == 0) false)) = true) : pPdu p = true := by
  unfold pPdu
  have h1 : (List.range p.2.2.2.2.length).any (bX p.2.2.2.2) = false := by
    rw [List.any_eq_false]
    intro k hk'
    have hk' := List.mem_range.1 hk'
    unfold bX
    simp only [List.getElem?_eq_getElem hk', hx _ (List.getElem_mem hk')]
    simp
  rw [h1, decide_eq_true (by omega), hk, hi]; rfl

set_option linter.unusedVariables false
set_option linter.unusedSimpArgs false
structure AskD (p : Pdu) : Prop where
  k : p.1 = 160 ∨ p.1 = 161 ∨ p.1 = 163 ∨ p.1 = 165
  i : 0 ≤ p.2.1 ∧ p.2.1 < 100
  ab : (p.1 = 165 ∧ (0 ≤ p.2.2.1 ∧ p.2.2.1 ≤ 1000) ∧ (0 ≤ p.2.2.2.1 ∧ p.2.2.2.1 ≤ 1000)) ∨ (p.1 ≠ 165 ∧ p.2.2.1 = 0 ∧ p.2.2.2.1 = 0)
  n : p.2.2.2.2.length ≤ 3
  s : ∀ x ∈ p.2.2.2.2, XSm x
  o : p.1 ≠ 163 → ∀ x ∈ p.2.2.2.2, xOk x = true
theorem AskD.le {p : Pdu} (h : AskD p) : PLe M p := ⟨by have := h.n; show _ ≤ 1048576; omega, fun x hx => (h.s x hx).le⟩
theorem AskD.ok {p : Pdu} (h : AskD p) (hk : p.1 ≠ 163) : pPdu p = true := by
  have hi := h.i
  refine pPdu_of (h.o hk) (by have := h.n; omega) (inP (by omega) (by omega)) ?_
  rcases h.ab with ⟨e, ⟨a1, a2⟩, b1, b2⟩ | ⟨e, a1, b1⟩
  · rw [e, inP a1 a2, inP b1 b2]; rfl
  · rw [a1, b1]
    rcases h.k with k | k | k | k
    · rw [k]; rfl
    · rw [k]; rfl
    · exact absurd k hk
    · exact absurd k e
set_option linter.unusedVariables false
set_option linter.unusedSimpArgs false
set_option linter.unusedVariables false
set_option linter.unusedSimpArgs false
theorem bnd_of {α β : Type} {o : Option α} {a : α} {k : α → Option β} {r : Option β} (h : o = some a) (hk : k a = r) : o.bind k = r := by rw [h]; exact hk
set_option linter.unusedVariables false
set_option linter.unusedSimpArgs false
set_option linter.unusedVariables false
set_option linter.unusedSimpArgs false
set_option linter.unusedVariables false
set_option linter.unusedSimpArgs false
set_option linter.unusedVariables false
set_option linter.unusedSimpArgs false
set_option linter.unusedVariables false
set_option linter.unusedSimpArgs false
set_option linter.unusedVariables false
set_option linter.unusedSimpArgs false
theorem drBindsA {c : L1Cur} (h : CW c) {n : Nat} (hn : n ≤ 1000) (k i a b : Int) : Dr (fun p : Pdu => p.2.2.2.2.length = n ∧ ∀ x ∈ p.2.2.2.2, XSm x) ((loop (fun z : Int × List Int × Int × Int × Int × Int × Int × Int × List Bind => spec_l4Draw_l0 z.1 z.2.1 z.2.2.1 z.2.2.2.1 z.2.2.2.2.1 z.2.2.2.2.2.1 z.2.2.2.2.2.2.1 z.2.2.2.2.2.2.2.1 z.2.2.2.2.2.2.2.2) ((n : Int), c.1, c.2.1, c.2.2, k, i, a, b, [])).bind fun d => some ((d.1, d.2.1, d.2.2.1), d.2.2.2)) := by
  obtain ⟨d, d1, d2, d3, d4⟩ := loop_inv (step := fun z : Int × List Int × Int × Int × Int × Int × Int × Int × List Bind => spec_l4Draw_l0 z.1 z.2.1 z.2.2.1 z.2.2.2.1 z.2.2.2.2.1 z.2.2.2.2.2.1 z.2.2.2.2.2.2.1 z.2.2.2.2.2.2.2.1 z.2.2.2.2.2.2.2.2)
    (fun j z => z.1 = ((n - j : Nat) : Int) ∧ CW (z.2.1, z.2.2.1, z.2.2.2.1) ∧ z.2.2.2.2.2.2.2.2.length = j ∧ ∀ y ∈ z.2.2.2.2.2.2.2.2, XSm y) n
    (fun d => CW (d.1, d.2.1, d.2.2.1) ∧ d.2.2.2.2.2.2.2.length = n ∧ ∀ y ∈ d.2.2.2.2.2.2.2, XSm y)
    (fun j z hj ⟨z1, z2, z3, z4⟩ => by
      obtain ⟨q, c0, c1, c2, r0, r1, r2, r3, out⟩ := z
      simp only at z1 z2 z3 z4
      subst z1 z3
      obtain ⟨c', o, x1, x2, x3⟩ := drOid z2
      obtain ⟨c'', v, y1, y2, y3⟩ := drVal x2
      refine .inl ⟨_, by
        show spec_l4Draw_l0 _ _ _ _ _ _ _ _ _ = _
        unfold spec_l4Draw_l0
        rw [decide_eq_true (show ((n - out.length : Nat) : Int) > 0 by omega), cond_true, x1, Option.bind_some, y1, Option.bind_some, app_small (by show _ + 1 ≤ _; omega), Option.bind_some], ?_, y2, by simp, ?_⟩
      · show w64 (((n - out.length : Nat) : Int) - 1) = _
        rw [w64_id (by omega) (by omega)]; omega
      · intro y hy
        rcases List.mem_append.1 hy with hy | hy
        · exact z4 y hy
        · rw [List.mem_singleton] at hy
          subst hy
          have := x3.n10
          exact ⟨by show o.length ≤ 1000; omega, y3⟩)
    (fun z ⟨z1, z2, z3, z4⟩ => by
      obtain ⟨q, c0, c1, c2, r0, r1, r2, r3, out⟩ := z
      simp only at z1 z2 z3 z4
      rw [Nat.sub_self] at z1
      subst z1
      refine ⟨(c0, c1, c2, r0, r1, r2, r3, out), ?_, z2, z3, z4⟩
      show spec_l4Draw_l0 _ _ _ _ _ _ _ _ _ = _
      unfold spec_l4Draw_l0
      rw [decide_eq_false (show ¬ ((0 : Nat) : Int) > 0 by decide), cond_false]) (x := ((n : Int), c.1, c.2.1, c.2.2, k, i, a, b, [])) ⟨rfl, h, rfl, by simp⟩
  refine ⟨_, _, bnd_of d1 rfl, d2, d3, d4⟩
theorem drBindsB {c : L1Cur} (h : CW c) {n : Nat} (hn : n ≤ 1000) (k i a b : Int) : Dr (fun p : Pdu => p.2.2.2.2.length = n ∧ ∀ x ∈ p.2.2.2.2, XSm x) ((loop (fun z : Int × List Int × Int × Int × Int × Int × Int × Int × List Bind => spec_l4Draw_l0_1 z.1 z.2.1 z.2.2.1 z.2.2.2.1 z.2.2.2.2.1 z.2.2.2.2.2.1 z.2.2.2.2.2.2.1 z.2.2.2.2.2.2.2.1 z.2.2.2.2.2.2.2.2) ((n : Int), c.1, c.2.1, c.2.2, k, i, a, b, [])).bind fun d => some ((d.1, d.2.1, d.2.2.1), d.2.2.2)) := by
  obtain ⟨d, d1, d2, d3, d4⟩ := loop_inv (step := fun z : Int × List Int × Int × Int × Int × Int × Int × Int × List Bind => spec_l4Draw_l0_1 z.1 z.2.1 z.2.2.1 z.2.2.2.1 z.2.2.2.2.1 z.2.2.2.2.2.1 z.2.2.2.2.2.2.1 z.2.2.2.2.2.2.2.1 z.2.2.2.2.2.2.2.2)
    (fun j z => z.1 = ((n - j : Nat) : Int) ∧ CW (z.2.1, z.2.2.1, z.2.2.2.1) ∧ z.2.2.2.2.2.2.2.2.length = j ∧ ∀ y ∈ z.2.2.2.2.2.2.2.2, XSm y) n
    (fun d => CW (d.1, d.2.1, d.2.2.1) ∧ d.2.2.2.2.2.2.2.length = n ∧ ∀ y ∈ d.2.2.2.2.2.2.2, XSm y)
    (fun j z hj ⟨z1, z2, z3, z4⟩ => by
      obtain ⟨q, c0, c1, c2, r0, r1, r2, r3, out⟩ := z
      simp only at z1 z2 z3 z4
      subst z1 z3
      obtain ⟨c', o, x1, x2, x3⟩ := drOid z2
      obtain ⟨c'', v, y1, y2, y3⟩ := drVal x2
      refine .inl ⟨_, by
        show spec_l4Draw_l0_1 _ _ _ _ _ _ _ _ _ = _
        unfold spec_l4Draw_l0_1
        rw [decide_eq_true (show ((n - out.length : Nat) : Int) > 0 by omega), cond_true, x1, Option.bind_some, y1, Option.bind_some, app_small (by show _ + 1 ≤ _; omega), Option.bind_some], ?_, y2, by simp, ?_⟩
      · show w64 (((n - out.length : Nat) : Int) - 1) = _
        rw [w64_id (by omega) (by omega)]; omega
      · intro y hy
        rcases List.mem_append.1 hy with hy | hy
        · exact z4 y hy
        · rw [List.mem_singleton] at hy
          subst hy
          have := x3.n10
          exact ⟨by show o.length ≤ 1000; omega, y3⟩)
    (fun z ⟨z1, z2, z3, z4⟩ => by
      obtain ⟨q, c0, c1, c2, r0, r1, r2, r3, out⟩ := z
      simp only at z1 z2 z3 z4
      rw [Nat.sub_self] at z1
      subst z1
      refine ⟨(c0, c1, c2, r0, r1, r2, r3, out), ?_, z2, z3, z4⟩
      show spec_l4Draw_l0_1 _ _ _ _ _ _ _ _ _ = _
      unfold spec_l4Draw_l0_1
      rw [decide_eq_false (show ¬ ((0 : Nat) : Int) > 0 by decide), cond_false]) (x := ((n : Int), c.1, c.2.1, c.2.2, k, i, a, b, [])) ⟨rfl, h, rfl, by simp⟩
  refine ⟨_, _, bnd_of d1 rfl, d2, d3, d4⟩
set_option linter.unusedVariables false
set_option linter.unusedSimpArgs false
def named (l : List Bind) : List Bind := l.map fun x => (x.1, 5, 0, [], [])
set_option linter.unusedVariables false
set_option linter.unusedSimpArgs false
theorem Dr.mono {α : Type} {P Q : α → Prop} {o : Option (L1Cur × α)} (h : Dr P o) (k : ∀ x, P x → Q x) : Dr Q o := by
  obtain ⟨c, x, e, w, hx⟩ := h
  exact ⟨c, x, e, w, k x hx⟩
def PdS (n : Nat) (p : Pdu) : Prop := p.2.2.2.2.length ≤ n ∧ ∀ x ∈ p.2.2.2.2, XLe M x
theorem PdS.le {n : Nat} {p : Pdu} (h : PdS n p) (hn : n ≤ 1000) : PLe M p := ⟨by have := h.1; show _ ≤ 1048576; omega, h.2⟩
theorem PdS.up {n m : Nat} {p : Pdu} (h : PdS n p) (hn : n ≤ m) : PdS m p := ⟨Nat.le_trans h.1 hn, h.2⟩
theorem drPdu4 {c : L1Cur} (h : CW c) : Dr (PdS 3) (spec_l4Draw c) := by
  have up : ∀ {n : Nat} {o : Option (L1Cur × Pdu)}, n ≤ 3 → Dr (fun p : Pdu => p.2.2.2.2.length = n ∧ ∀ x ∈ p.2.2.2.2, XSm x) o → Dr (PdS 3) o := fun hn h => h.mono fun p hp => ⟨by rw [hp.1]; exact hn, fun x hx => (hp.2 x hx).le⟩
  unfold spec_l4Draw
  refine Dr.bind (drInt h (by decide)) fun c k hc _ => ?_
  refine Dr.bind (drNum hc) fun c x hc _ => ?_
  obtain ⟨r, hr⟩ := clipX x
  rw [hr, Option.bind_some]
  have hkk : ∃ t, (cond (k == 162) (some true) (some (k == 165))) = some t := by cases k == 162 <;> exact ⟨_, rfl⟩
  obtain ⟨t, ht⟩ := hkk
  simp only
  rw [ht, Option.bind_some]
  refine Dr.cond ?_ ?_
  · refine Dr.bind (drBelow hc 4) fun c a hc _ => ?_
    refine Dr.bind (drBelow hc 5) fun c b hc _ => ?_
    obtain ⟨c1, n, e1, w1, hn⟩ := belowN hc (n := 4) (by decide)
    have e1' : spec_l1Below c 4 = some (c1, (n : Int)) := e1
    simp only
    rw [e1', Option.bind_some]
    exact up (by omega) (drBindsA w1 (by omega) k r a b)
  · obtain ⟨c1, n, e1, w1, hn⟩ := belowN hc (n := 4) (by decide)
    have e1' : spec_l1Below c 4 = some (c1, (n : Int)) := e1
    rw [e1', Option.bind_some]
    exact up (by omega) (drBindsB w1 (by omega) k r 0 0)
theorem drOidAny {c : L1Cur} (h : CW c) : Dr (fun o : List Int => o.length ≤ 11) (spec_l2Any c) := by
  unfold spec_l2Any
  refine Dr.bind (drOid h) fun c o hc ho => ?_
  have h1 := ho.n1
  have h10 := ho.n10
  refine Dr.bind (drBelow hc 10) fun c k hc _ => ?_
  refine Dr.cond ?_ (Dr.cond ?_ (Dr.cond ?_ ?_))
  · exact Dr.some hc (by simp)
  · refine Dr.bind (drInt hc (by decide)) fun c x hc _ => ?_
    have e0 : ix o.length 0 = some 0 := ix_nat (k := 0) (by omega)
    simp only
    rw [e0, Option.bind_some, List.getElem?_eq_getElem (show 0 < o.length by omega), Option.bind_some]
    exact Dr.some hc (by rw [List.length_set]; omega)
  · obtain ⟨d, d1, d2, d3⟩ := loop_inv (step := fun z : List Int × Int × Int × List Int => spec_l2Any_l1 z.1 z.2.1 z.2.2.1 z.2.2.2) (fun j z => CW (z.1, z.2.1, z.2.2.1) ∧ z.2.2.2.length = o.length + j ∧ z.2.2.2.length ≤ 11) (12 - o.length) (fun d => CW (d.1, d.2.1, d.2.2.1) ∧ d.2.2.2.length ≤ 11)
      (fun j z hj ⟨z1, z2, z3⟩ => by
        obtain ⟨c', t, e, w, t0, t1⟩ := drBelow z1 2
        have t1 := t1 (by omega)
        have ew : w64 (10 + t) = 10 + t := w64_id (by omega) (by omega)
        by_cases hlt : (z.2.2.2.length : Int) < 10 + t
        · refine .inl ⟨(c'.1, c'.2.1, c'.2.2, z.2.2.2 ++ [1]), by
            show spec_l2Any_l1 _ _ _ _ = _
            unfold spec_l2Any_l1
            simp only [e, Option.bind_some, ew, decide_eq_true hlt, cond_true, app_small (show z.2.2.2.length + [(1 : Int)].length ≤ _ by show z.2.2.2.length + 1 ≤ _; omega)], w, ?_, ?_⟩
          · simp; omega
          · simp; omega
        · refine .inr ⟨(c'.1, c'.2.1, c'.2.2, z.2.2.2), by
            show spec_l2Any_l1 _ _ _ _ = _
            unfold spec_l2Any_l1
            simp only [e, Option.bind_some, ew, decide_eq_false hlt, cond_false], w, z3⟩)
      (fun z ⟨z1, z2, z3⟩ => by omega) (x := (c.1, c.2.1, c.2.2, o)) ⟨hc, by simp, by show o.length ≤ 11; omega⟩
    exact ⟨_, _, bnd_of d1 rfl, d2, d3⟩
  · exact Dr.some hc (by show o.length ≤ 11; omega)
theorem drValAny {c : L1Cur} (h : CW c) : Dr (fun v : Val => v.2.2.1.length ≤ 100 ∧ v.2.2.2.length ≤ 1000) (spec_l3Any c) := by
  unfold spec_l3Any
  refine Dr.bind (drVal h) fun c v hc hv => ?_
  obtain ⟨v1, v2, _⟩ := hv
  refine Dr.bind (drBelow hc 12) fun c k hc _ => ?_
  refine Dr.cond ?_ (Dr.cond ?_ (Dr.cond ?_ (Dr.cond ?_ ?_)))
  · exact Dr.bind (drInt hc (by decide)) fun c x hc _ => Dr.some hc ⟨v1, v2⟩
  · exact Dr.bind (drNum hc) fun c x hc _ => Dr.some hc ⟨v1, v2⟩
  · refine Dr.bind (drBelow hc 2) fun c t hc ht => ?_
    have ht2 := ht.2 (by omega)
    obtain ⟨n, rfl⟩ : ∃ n : Nat, t = (n : Int) := ⟨t.toNat, by omega⟩
    have ew : w64 (20 + (n : Int)) = ((20 + n : Nat) : Int) := by rw [w64_id (by omega) (by omega)]; omega
    simp only
    rw [ew, mkLen_nat (by omega), Option.bind_some]
    exact Dr.some hc ⟨by show (bytesOf (List.replicate (20 + n) 0)).length ≤ 100; unfold bytesOf; rw [List.length_map, List.length_replicate]; omega, v2⟩
  · exact Dr.bind (drOidAny hc) fun c o hc ho => Dr.some hc ⟨v1, by show o.length ≤ 1000; omega⟩
  · exact Dr.some hc ⟨v1, v2⟩
theorem xle {o : List Int} {v : Val} (ho : o.length ≤ 1000) (hv : v.2.2.1.length ≤ 100 ∧ v.2.2.2.length ≤ 1000) : XLe M (o, v.1, v.2.1, v.2.2.1, v.2.2.2) := by
  have hM : M = 1048576 := rfl
  exact ⟨by show o.length ≤ _; omega, by show v.2.2.1.length ≤ _; omega, by show v.2.2.2.length ≤ _; omega⟩
theorem drPduBent {c : L1Cur} (h : CW c) : Dr (PdS 12) (spec_l4Any c) := by
  unfold spec_l4Any
  refine Dr.bind (drPdu4 h) fun c p hc hp => ?_
  have hn := hp.1
  refine Dr.bind (drBelow hc 12) fun c k hc _ => ?_
  refine Dr.cond ?_ (Dr.cond ?_ (Dr.cond ?_ (Dr.cond ?_ ?_)))
  · exact Dr.bind (drBelow hc 256) fun c x hc _ => Dr.some hc ⟨by show p.2.2.2.2.length ≤ 12; omega, hp.2⟩
  · exact Dr.bind (drInt hc (by decide)) fun c x hc _ => Dr.some hc ⟨by show p.2.2.2.2.length ≤ 12; omega, hp.2⟩
  · refine Dr.bind (drOidAny hc) fun c o hc ho => ?_
    refine Dr.bind (drValAny hc) fun c v hc hv => ?_
    have hap : ∀ x : Bind, app p.2.2.2.2 [x] = some (p.2.2.2.2 ++ [x]) := fun x => app_small (by show p.2.2.2.2.length + 1 ≤ _; omega)
    simp only
    rw [hap, Option.bind_some]
    refine Dr.some hc ⟨?_, fun x hx => ?_⟩
    · show (p.2.2.2.2 ++ [_]).length ≤ 12
      rw [List.length_append]; show p.2.2.2.2.length + 1 ≤ 12; omega
    · rcases List.mem_append.1 (show x ∈ p.2.2.2.2 ++ [_] from hx) with hx | hx
      · exact hp.2 x hx
      · rw [List.mem_singleton.1 hx]; exact xle (by omega) hv
  · obtain ⟨d, d1, d2, d3, d4⟩ := loop_inv (step := fun z : List Int × Int × Int × Int × Int × Int × Int × List Bind => spec_l4Any_l1 z.1 z.2.1 z.2.2.1 z.2.2.2.1 z.2.2.2.2.1 z.2.2.2.2.2.1 z.2.2.2.2.2.2.1 z.2.2.2.2.2.2.2) (fun j z => CW (z.1, z.2.1, z.2.2.1) ∧ z.2.2.2.2.2.2.2.length = p.2.2.2.2.length + j ∧ z.2.2.2.2.2.2.2.length ≤ 11 ∧ ∀ x ∈ z.2.2.2.2.2.2.2, XLe M x) (12 - p.2.2.2.2.length) (fun d => CW (d.1, d.2.1, d.2.2.1) ∧ d.2.2.2.2.2.2.2.length ≤ 11 ∧ ∀ x ∈ d.2.2.2.2.2.2.2, XLe M x)
      (fun j z hj ⟨z1, z2, z3, z4⟩ => by
        obtain ⟨c', t, e, w, t0, t1⟩ := drBelow z1 2
        have t1 := t1 (by omega)
        have ew : w64 (10 + t) = 10 + t := w64_id (by omega) (by omega)
        by_cases hlt : (z.2.2.2.2.2.2.2.length : Int) < 10 + t
        · obtain ⟨c2, o, e2, w2, ho⟩ := drOid w
          have h10 := ho.n10
          have hap : ∀ x : Bind, app z.2.2.2.2.2.2.2 [x] = some (z.2.2.2.2.2.2.2 ++ [x]) := fun x => app_small (by show z.2.2.2.2.2.2.2.length + 1 ≤ _; omega)
          refine .inl ⟨(c2.1, c2.2.1, c2.2.2, z.2.2.2.1, z.2.2.2.2.1, z.2.2.2.2.2.1, z.2.2.2.2.2.2.1, z.2.2.2.2.2.2.2 ++ [(o, 4, 0, [116, 119, 101, 110, 116, 121, 45, 98, 121, 116, 101, 115, 45, 111, 102, 45, 116, 101, 120, 116], [])]), by
            show spec_l4Any_l1 _ _ _ _ _ _ _ _ = _
            unfold spec_l4Any_l1
            simp only [e, Option.bind_some, ew, decide_eq_true hlt, cond_true, e2, hap], w2, ?_, ?_, ?_⟩
          · simp; omega
          · simp; omega
          · intro x hx
            rcases List.mem_append.1 (show x ∈ z.2.2.2.2.2.2.2 ++ [_] from hx) with hx | hx
            · exact z4 x hx
            · rw [List.mem_singleton.1 hx]
              exact xle (v := (4, 0, [116, 119, 101, 110, 116, 121, 45, 98, 121, 116, 101, 115, 45, 111, 102, 45, 116, 101, 120, 116], [])) (by omega) ⟨by decide, by decide⟩
        · refine .inr ⟨(c'.1, c'.2.1, c'.2.2, z.2.2.2), by
            show spec_l4Any_l1 _ _ _ _ _ _ _ _ = _
            unfold spec_l4Any_l1
            simp only [e, Option.bind_some, ew, decide_eq_false hlt, cond_false], w, z3, z4⟩)
      (fun z ⟨z1, z2, z3, z4⟩ => by omega) (x := (c.1, c.2.1, c.2.2, p.1, p.2.1, p.2.2.1, p.2.2.2.1, p.2.2.2.2)) ⟨hc, by simp, by show p.2.2.2.2.length ≤ 11; omega, hp.2⟩
    exact ⟨_, _, bnd_of d1 rfl, d2, by have := d3; show d.2.2.2.2.2.2.2.length ≤ 12; omega, d4⟩
  · exact Dr.some hc (hp.up (by omega))

set_option linter.unusedVariables false
set_option linter.unusedSimpArgs false
theorem dec_lt {u : Nat} (h : u < 10) : Lib.decDigits u = [UInt8.ofNat (48 + u)] := by rw [Lib.decDigits, dif_pos h]
theorem dec_ge {u : Nat} (h : ¬ u < 10) : Lib.decDigits u = Lib.decDigits (u / 10) ++ [UInt8.ofNat (48 + u % 10)] := by rw [Lib.decDigits, dif_neg h]
theorem dec_len : ∀ (k u : Nat), u < 10 ^ (k + 1) → (Lib.decDigits u).length ≤ k + 1
  | 0, u, h => by rw [dec_lt (by simpa using h)]; simp
  | k + 1, u, h => by
    by_cases h1 : u < 10
    · rw [dec_lt h1]; simp
    · rw [dec_ge h1, List.length_append]
      have := dec_len k (u / 10) (by rw [Nat.pow_succ] at h; omega)
      simp; omega
theorem itoa_len {n : Int} (h0 : -9223372036854775808 ≤ n) (h1 : n ≤ 9223372036854775807) : (Lib.itoa n).length ≤ 20 := by
  unfold Lib.itoa
  split
  · have := dec_len 18 n.natAbs (by omega)
    simp; omega
  · have := dec_len 18 n.toNat (by omega)
    omega
theorem itoaT {n : Int} (h0 : -9223372036854775808 ≤ n) (h1 : n ≤ 9223372036854775807) : libItoa n = some (Lib.itoa n) := by
  unfold libItoa
  rw [decide_eq_true h0, decide_eq_true h1]; rfl
theorem joinTail_append (sep : List UInt8) (r : List (List UInt8)) (x : List UInt8) : Lib.joinTail sep (r ++ [x]) = Lib.joinTail sep r ++ (sep ++ x) := by
  simp [Lib.joinTail]
theorem join_snoc {xs : List (List UInt8)} (x sep : List UInt8) (h : xs ≠ []) : Lib.join (xs ++ [x]) sep = Lib.join xs sep ++ sep ++ x := by
  cases xs with
  | nil => exact absurd rfl h
  | cons a r => rw [List.cons_append, Lib.join_cons, Lib.join_cons, joinTail_append, List.append_assoc, List.append_assoc]
theorem joinTail_len {sep : List UInt8} {m : Nat} (hs : sep.length ≤ 1) : ∀ {r : List (List UInt8)}, (∀ x ∈ r, x.length ≤ m) → (Lib.joinTail sep r).length ≤ r.length * (m + 1)
  | [], _ => by simp [Lib.joinTail]
  | x :: r, h => by
    have h1 := h x (by simp)
    have h2 := joinTail_len hs (r := r) fun y hy => h y (by simp [hy])
    have e : (Lib.joinTail sep (x :: r)).length = (sep.length + x.length) + (Lib.joinTail sep r).length := by simp [Lib.joinTail, Nat.add_assoc]
    rw [e, List.length_cons, Nat.add_mul]
    omega
theorem join_len {sep : List UInt8} {m : Nat} (hs : sep.length ≤ 1) {xs : List (List UInt8)} (h : ∀ x ∈ xs, x.length ≤ m) : (Lib.join xs sep).length ≤ xs.length * (m + 1) := by
  cases xs with
  | nil => simp [Lib.join_nil]
  | cons x r =>
    rw [Lib.join_cons, List.length_append, List.length_cons, Nat.add_mul]
    have h1 := h x (by simp)
    have h2 := joinTail_len hs (r := r) fun y hy => h y (by simp [hy])
    omega
theorem joinT {xs : List (List UInt8)} {sep : List UInt8} {m : Nat} (hs : sep.length ≤ 1) (h : ∀ x ∈ xs, x.length ≤ m) (hl : xs.length ≤ 1048576) (hm : m ≤ 1000000) : libJoin xs sep = some (Lib.join xs sep) := by
  have h1 := join_len hs h
  have h2 : xs.length * (m + 1) ≤ 1048576 * 1000001 := Nat.mul_le_mul hl (by omega)
  unfold libJoin
  rw [decide_eq_true (by omega), decide_eq_true (by omega)]; rfl
theorem pIn_t {x a b : Int} (h : pIn x a b = true) : a ≤ x ∧ x ≤ b := by
  unfold pIn at h
  rw [Bool.and_eq_true] at h
  exact ⟨of_decide_eq_true h.1, of_decide_eq_true h.2⟩
theorem catT {a b : List UInt8} (h : a.length + b.length ≤ 4294967296) : cat a b = some (a ++ b) := by
  unfold cat maxN
  rw [if_pos h]

set_option linter.unusedVariables false
set_option linter.unusedSimpArgs false
theorem num_digit {u : Nat} (h : u < 10) : bytesOf [IntKind.u8.wrap (w64 (48 + (u : Int)))] = [UInt8.ofNat (48 + u)] := by
  match u, h with
  | 0, _ => rfl
  | 1, _ => rfl
  | 2, _ => rfl
  | 3, _ => rfl
  | 4, _ => rfl
  | 5, _ => rfl
  | 6, _ => rfl
  | 7, _ => rfl
  | 8, _ => rfl
  | 9, _ => rfl
theorem num_nat : ∀ (k u : Nat), u < 10 ^ (k + 1) → u < 9223372036854775808 → spec_l2Num_k (k + 1) (u : Int) = some (Lib.decDigits u)
  | k, u, h, hb => by
    show spec_l2Num_b (spec_l2Num_k k) (u : Int) = _
    unfold spec_l2Num_b
    rw [decide_eq_false (show ¬ (u : Int) < 0 by omega), cond_false]
    by_cases h1 : u < 10
    · rw [decide_eq_true (show (u : Int) < 10 by omega), cond_true, dec_lt h1]
      show some _ = _
      rw [num_digit h1]
    · have e1 : (u : Int).tdiv 10 = ((u / 10 : Nat) : Int) := rfl
      have e2 : (u : Int).tmod 10 = ((u % 10 : Nat) : Int) := rfl
      cases k with
      | zero => exact absurd (by simpa using h) h1
      | succ k =>
        have h2 : u / 10 < 10 ^ (k + 1) := by rw [Nat.pow_succ] at h; omega
        have ih := num_nat k (u / 10) h2 (by omega)
        have hl := dec_len 18 (u / 10) (by omega)
        rw [decide_eq_false (show ¬ (u : Int) < 10 by omega), cond_false, e1, e2, w64_id (by omega) (by omega), ih, Option.bind_some, num_digit (by omega), catT (by simp; omega), Option.bind_some, ← dec_ge h1]
theorem numTx {n : Int} (h0 : -9223372036854775808 < n) (h1 : n ≤ 9223372036854775807) : spec_l2Num n = some (Lib.itoa n) := by
  unfold spec_l2Num Lib.itoa
  by_cases h : n < 0
  · obtain ⟨u, rfl⟩ : ∃ u : Nat, n = -(u : Int) := ⟨n.natAbs, by omega⟩
    have hl := dec_len 18 u (by omega)
    rw [if_pos h]
    show spec_l2Num_b (spec_l2Num_k 19) _ = _
    unfold spec_l2Num_b
    rw [decide_eq_true h, cond_true, show (0 : Int) - -(u : Int) = (u : Int) by omega, w64_id (by omega) (by omega), num_nat 18 u (by omega) (by omega), Option.bind_some, catT (by simp; omega), Option.bind_some, Int.natAbs_neg, Int.natAbs_natCast]
    rfl
  · obtain ⟨u, rfl⟩ : ∃ u : Nat, n = (u : Int) := ⟨n.toNat, by omega⟩
    rw [if_neg h, num_nat 19 u (by omega) (by omega), Int.toNat_natCast]
def oidX (o : List Int) : List UInt8 := Lib.join (o.map Lib.itoa) [46]
theorem oid_range {o : List Int} (h : pOid o = true) : o.length ≤ 10 ∧ ∀ x ∈ o, 0 ≤ x ∧ x ≤ 100000 := by
  unfold pOid at h
  rw [Bool.and_eq_true, Bool.not_eq_true'] at h
  have h1 := pIn_t h.2
  refine ⟨by omega, fun x hx => ?_⟩
  obtain ⟨k, hk, rfl⟩ := List.getElem_of_mem hx
  have := List.any_eq_false.1 h.1 k (List.mem_range.2 hk)
  unfold bOid at this
  simp only [List.getElem?_eq_getElem hk] at this
  cases hp : pIn o[k] 0 100000 with
  | true => exact pIn_t hp
  | false => rw [hp] at this; exact absurd rfl this
theorem oid_words {o : List Int} (h : pOid o = true) : ∀ x ∈ o.map Lib.itoa, x.length ≤ 20 := by
  intro x hx
  obtain ⟨n, hn, rfl⟩ := List.mem_map.1 hx
  have := (oid_range h).2 n hn
  exact itoa_len (by omega) (by omega)
theorem oidX_len {o : List Int} (h : pOid o = true) : (oidX o).length ≤ 210 := by
  have h1 := join_len (sep := [46]) (by simp) (oid_words h)
  have h2 := (oid_range h).1
  rw [List.length_map] at h1
  have : o.length * (20 + 1) ≤ 10 * 21 := Nat.mul_le_mul_right _ h2
  unfold oidX; omega
theorem take_snoc {α : Type} {l : List α} {k : Nat} (h : k < l.length) : l.take (k + 1) = l.take k ++ [l[k]] := by
  rw [List.take_add_one, List.getElem?_eq_getElem h]; rfl
theorem oidTextT {o : List Int} (h : o.length ≤ M) : impl_OidText o = some (cond (pOid o) (oidX o) []) := by
  have h' : o.length ≤ 1048576 := h
  unfold impl_OidText
  rw [oidT (by omega), Option.bind_some]
  cases hp : pOid o with
  | false => rfl
  | true =>
    have hr := (oid_range hp).2
    obtain ⟨d, d1, rfl⟩ := loop_inv (step := fun z : Int × List (List UInt8) => impl_OidText_l0 o z.1 z.2) (fun k z => z = ((k : Int), (o.take k).map Lib.itoa)) o.length (fun d => d = o.map Lib.itoa)
      (fun k z hk hz => by
        subst hz
        refine .inl ⟨_, ?_, rfl⟩
        have hx := hr o[k] (List.getElem_mem hk)
        show impl_OidText_l0 o (k : Int) _ = _
        unfold impl_OidText_l0
        rw [dlt (by omega), cond_true, at_nat hk, Option.bind_some, itoaT (by omega) (by omega), Option.bind_some, app_big (by simp; omega), Option.bind_some, w64_nat (by omega), take_snoc hk, List.map_append]
        rfl)
      (fun z hz => by
        subst hz
        refine ⟨o.map Lib.itoa, ?_, rfl⟩
        show impl_OidText_l0 o (o.length : Int) _ = _
        unfold impl_OidText_l0
        rw [dnlt (by omega), cond_false, List.take_length])
      (x := (0, [])) (by simp)
    rw [Bool.not_true, cond_false, d1, Option.bind_some, joinT (m := 20) (by simp) (oid_words hp) (by rw [List.length_map]; exact h') (by omega), Option.bind_some]
    rfl
theorem oidTextS {o : List Int} (h : o.length ≤ M) : spec_OidText o = some (cond (pOid o) (oidX o) []) := by
  have h' : o.length ≤ 1048576 := h
  unfold spec_OidText
  rw [oidS, oidT (by omega), Option.bind_some]
  cases hp : pOid o with
  | false => rfl
  | true =>
    have hr := (oid_range hp).2
    have hw : ∀ k, (Lib.join ((o.take k).map Lib.itoa) [46]).length ≤ 210 := fun k => by
      have h1 := join_len (sep := [46]) (m := 20) (xs := (o.take k).map Lib.itoa) (by simp) fun x hx => oid_words hp x (by
        obtain ⟨n, hn, rfl⟩ := List.mem_map.1 hx
        exact List.mem_map_of_mem (List.mem_of_mem_take hn))
      have h2 := (oid_range hp).1
      rw [List.length_map, List.length_take] at h1
      have : min k o.length * (20 + 1) ≤ 10 * 21 := Nat.mul_le_mul_right _ (by omega)
      omega
    obtain ⟨d, d1, rfl⟩ := loop_inv (step := fun z : List UInt8 × Int => spec_OidText_l0 o z.1 z.2) (fun k z => z = (Lib.join ((o.take k).map Lib.itoa) [46], (k : Int))) o.length (fun d => d = oidX o)
      (fun k z hk hz => by
        subst hz
        refine .inl ⟨_, ?_, rfl⟩
        have hx := hr o[k] (List.getElem_mem hk)
        have hl := itoa_len (n := o[k]) (by omega) (by omega)
        have hk1 := hw k
        show spec_OidText_l0 o (Lib.join ((o.take k).map Lib.itoa) [46]) (k : Int) = _
        unfold spec_OidText_l0
        rw [dlt (by omega), cond_true]
        cases k with
        | zero =>
          rw [decide_eq_false (show ¬ ((0 : Nat) : Int) > 0 by omega), cond_false, at_nat hk, Option.bind_some, numTx (by omega) (by omega), Option.bind_some, catT (by simp [Lib.join_nil]; omega), Option.bind_some, w64_nat (by omega), take_snoc hk]
          simp [Lib.join_nil, Lib.join_one]
        | succ k =>
          have hne : (o.take (k + 1)).map Lib.itoa ≠ [] := by
            intro e
            have := congrArg List.length e
            rw [List.length_map, List.length_take, List.length_nil] at this; omega
          rw [decide_eq_true (show ((k + 1 : Nat) : Int) > 0 by omega), cond_true, catT (by rw [List.length_singleton]; omega), Option.bind_some, at_nat hk, Option.bind_some, numTx (by omega) (by omega), Option.bind_some, catT (by rw [List.length_append, List.length_singleton]; omega), Option.bind_some, w64_nat (by omega), take_snoc hk, List.map_append]
          show _ = some (Sum.inl (Lib.join ((o.take (k + 1)).map Lib.itoa ++ [Lib.itoa o[k + 1]]) [46], _))
          rw [join_snoc _ _ hne])
      (fun z hz => by
        subst hz
        refine ⟨oidX o, ?_, rfl⟩
        show spec_OidText_l0 o _ (o.length : Int) = _
        unfold spec_OidText_l0
        rw [dnlt (by omega), cond_false, List.take_length]; rfl)
      (x := ([], 0)) (by simp [Lib.join_nil])
    rw [Bool.not_true, cond_false, d1, Option.bind_some]
    rfl
def valX (v : Val) : List UInt8 :=
  cond (pVal v) (cond (v.1 == 5) [110, 117, 108, 108] (cond (v.1 == 2) (Lib.itoa v.2.1) (cond (v.1 == 4) ([39] ++ v.2.2.1 ++ [39]) (cond (v.1 == 6) (cond (pOid v.2.2.2) (oidX v.2.2.2) []) (cond (v.1 == 128) [110, 111, 110, 101] [101, 110, 100]))))) []
theorem pVal_kind {v : Val} (h : pVal v = true) : v.1 = 5 ∨ v.1 = 128 ∨ v.1 = 130 ∨ (v.1 = 2 ∧ -2147483648 ≤ v.2.1 ∧ v.2.1 ≤ 2147483647) ∨ (v.1 = 4 ∧ v.2.2.1.length ≤ 20) ∨ (v.1 = 6 ∧ pOid v.2.2.2 = true) := by
  unfold pVal at h
  cases h1 : (v.1 == 5 || (v.1 == 128 || v.1 == 130)) with
  | true =>
    simp only [Bool.or_eq_true, beq_iff_eq] at h1
    rcases h1 with h1 | h1 | h1
    · exact .inl h1
    · exact .inr (.inl h1)
    · exact .inr (.inr (.inl h1))
  | false =>
    rw [h1, cond_false] at h
    cases h2 : v.1 == 2 with
    | true =>
      rw [h2, cond_true] at h
      simp only [Bool.and_eq_true] at h
      have := pIn_t h.1
      exact .inr (.inr (.inr (.inl ⟨by simpa using h2, by omega, by omega⟩)))
    | false =>
      rw [h2, cond_false] at h
      cases h4 : v.1 == 4 with
      | true =>
        rw [h4, cond_true] at h
        simp only [Bool.and_eq_true, decide_eq_true_eq] at h
        exact .inr (.inr (.inr (.inr (.inl ⟨by simpa using h4, by omega⟩))))
      | false =>
        rw [h4, cond_false] at h
        cases h6 : v.1 == 6 with
        | true =>
          rw [h6, cond_true] at h
          simp only [Bool.and_eq_true] at h
          exact .inr (.inr (.inr (.inr (.inr ⟨by simpa using h6, h.1⟩))))
        | false => rw [h6, cond_false] at h; cases h
theorem valTextT {v : Val} (h : VLe M v) : impl_ValText v = some (valX v) := by
  unfold impl_ValText valX
  rw [valT h.2, Option.bind_some]
  cases hp : pVal v with
  | false => rfl
  | true =>
    rw [Bool.not_true, cond_false, cond_true]
    rcases pVal_kind hp with e | e | e | ⟨e, e1, e2⟩ | ⟨e, e1⟩ | ⟨e, e1⟩ <;> rw [e]
    · rfl
    · rfl
    · rfl
    · show (libItoa v.2.1).bind _ = some (Lib.itoa v.2.1)
      rw [itoaT (by omega) (by omega)]; rfl
    · show (cat [39] v.2.2.1).bind _ = some ([39] ++ v.2.2.1 ++ [39])
      rw [catT (by simp; omega), Option.bind_some, catT (by simp; omega)]; rfl
    · show (impl_OidText v.2.2.2).bind _ = some (cond (pOid v.2.2.2) (oidX v.2.2.2) [])
      rw [oidTextT h.2]; rfl
theorem valTextS {v : Val} (h : VLe M v) : spec_ValText v = some (valX v) := by
  unfold spec_ValText valX
  rw [valS h.2, Option.bind_some]
  cases hp : pVal v with
  | false => rfl
  | true =>
    rw [Bool.not_true, cond_false, cond_true]
    rcases pVal_kind hp with e | e | e | ⟨e, e1, e2⟩ | ⟨e, e1⟩ | ⟨e, e1⟩ <;> rw [e]
    · rfl
    · rfl
    · rfl
    · show (spec_l2Num v.2.1).bind _ = some (Lib.itoa v.2.1)
      rw [numTx (by omega) (by omega)]; rfl
    · show (cat [39] v.2.2.1).bind _ = some ([39] ++ v.2.2.1 ++ [39])
      rw [catT (by simp; omega), Option.bind_some, catT (by simp; omega)]; rfl
    · show (spec_OidText v.2.2.2).bind _ = some (cond (pOid v.2.2.2) (oidX v.2.2.2) [])
      rw [oidTextS h.2]; rfl
theorem oidc_len (o : List Int) : (cond (pOid o) (oidX o) []).length ≤ 210 := by
  cases hp : pOid o with
  | true => exact oidX_len hp
  | false => simp
theorem valX_len (v : Val) : (valX v).length ≤ 210 := by
  unfold valX
  cases hp : pVal v with
  | false => simp
  | true =>
    rw [cond_true]
    rcases pVal_kind hp with e | e | e | ⟨e, e1, e2⟩ | ⟨e, e1⟩ | ⟨e, e1⟩ <;> rw [e]
    · show ([110, 117, 108, 108] : List UInt8).length ≤ 210; decide
    · show ([110, 111, 110, 101] : List UInt8).length ≤ 210; decide
    · show ([101, 110, 100] : List UInt8).length ≤ 210; decide
    · show (Lib.itoa v.2.1).length ≤ 210
      have := itoa_len (n := v.2.1) (by omega) (by omega); omega
    · show ([39] ++ v.2.2.1 ++ [39]).length ≤ 210
      simp; omega
    · exact oidc_len _
def bndTx (x : Bind) : List UInt8 := cond (pOid x.1) (oidX x.1) [] ++ [32, 61, 32] ++ valX x.2
theorem bndTx_len (x : Bind) : (bndTx x).length ≤ 430 := by
  have h1 := oidc_len x.1; have h2 := valX_len x.2
  unfold bndTx; simp; omega
theorem bindTextT {x : Bind} (h : XLe M x) : impl_BindText x = some (bndTx x) := by
  have h1 := oidc_len x.1; have h2 := valX_len x.2
  unfold impl_BindText
  rw [oidTextT h.1, Option.bind_some, catT (by simp; omega), Option.bind_some, valTextT h.2, Option.bind_some, catT (by simp; omega)]; rfl
theorem bindTextS {x : Bind} (h : XLe M x) : spec_BindText x = some (bndTx x) := by
  have h1 := oidc_len x.1; have h2 := valX_len x.2
  unfold spec_BindText
  rw [oidTextS h.1, Option.bind_some, catT (by simp; omega), Option.bind_some, valTextS h.2, Option.bind_some, catT (by simp; omega)]; rfl

set_option linter.unusedVariables false
set_option linter.unusedSimpArgs false
def kindX (k : Int) : List UInt8 := cond (k == 160) [103, 101, 116] (cond (k == 161) [110, 101, 120, 116] (cond (k == 162) [97, 110, 115, 119, 101, 114] (cond (k == 163) [115, 101, 116] [98, 117, 108, 107])))
def headX (p : Pdu) : List UInt8 := kindX p.1 ++ [32] ++ Lib.itoa p.2.1 ++ cond (p.1 == 162 || p.1 == 165) ([32] ++ Lib.itoa p.2.2.1 ++ [32] ++ Lib.itoa p.2.2.2.1) []
def bndsTx (l : List Bind) : List UInt8 := (l.map fun x => [10] ++ bndTx x).flatten
def pduX (p : Pdu) : List UInt8 := cond (pPdu p) (headX p ++ bndsTx p.2.2.2.2) []
theorem kindX_len (k : Int) : (kindX k).length ≤ 6 := by
  unfold kindX
  cases k == 160 <;> cases k == 161 <;> cases k == 162 <;> cases k == 163 <;> simp
theorem kindS (k : Int) : spec_l26Kind k = some (kindX k) := by
  unfold spec_l26Kind kindX
  cases k == 160 <;> cases k == 161 <;> cases k == 162 <;> cases k == 163 <;> rfl
theorem bndsTx_snoc (l : List Bind) (x : Bind) : bndsTx (l ++ [x]) = bndsTx l ++ ([10] ++ bndTx x) := by simp [bndsTx]
theorem bndsTx_len : ∀ (l : List Bind), (bndsTx l).length ≤ l.length * 431
  | [] => by simp [bndsTx]
  | x :: l => by
    have h1 := bndTx_len x; have h2 := bndsTx_len l
    have e : (bndsTx (x :: l)).length = (1 + (bndTx x).length) + (bndsTx l).length := by simp [bndsTx, Nat.add_comm, Nat.add_assoc]
    rw [e, List.length_cons, Nat.add_mul]; omega
theorem pPdu_facts {p : Pdu} (h : pPdu p = true) : p.2.2.2.2.length ≤ 10 ∧ (-2147483648 ≤ p.2.1 ∧ p.2.1 ≤ 2147483647) ∧ ((p.1 == 162 || p.1 == 165) = true → (0 ≤ p.2.2.1 ∧ p.2.2.1 ≤ 1000) ∧ 0 ≤ p.2.2.2.1 ∧ p.2.2.2.1 ≤ 1000) := by
  unfold pPdu at h
  simp only [Bool.and_eq_true, decide_eq_true_eq] at h
  obtain ⟨⟨_, h1⟩, h2, h3⟩ := h
  refine ⟨by omega, pIn_t h3, fun hk => ?_⟩
  rw [hk, cond_true, Bool.and_eq_true] at h2
  exact ⟨pIn_t h2.1, pIn_t h2.2⟩
theorem pdu_loopX {p : Pdu} (h : PLe M p) (hl : p.2.2.2.2.length ≤ 10) {s : List UInt8} (hs : s.length ≤ 1000) : loop (fun z => impl_PduText_l1 p z.1 z.2) (s, 0) = some (s ++ bndsTx p.2.2.2.2) := by
  obtain ⟨d, d1, rfl⟩ := loop_inv (step := fun z : List UInt8 × Int => impl_PduText_l1 p z.1 z.2) (fun k z => z = (s ++ bndsTx (p.2.2.2.2.take k), (k : Int))) p.2.2.2.2.length (fun d => d = s ++ bndsTx p.2.2.2.2)
    (fun k z hk hz => by
      subst hz
      refine .inl ⟨_, ?_, rfl⟩
      have h1 := bndTx_len p.2.2.2.2[k]
      have h2 := bndsTx_len (p.2.2.2.2.take k)
      have h3 : (p.2.2.2.2.take k).length * 431 ≤ 10 * 431 := Nat.mul_le_mul_right _ (by rw [List.length_take]; omega)
      show impl_PduText_l1 p (s ++ bndsTx (p.2.2.2.2.take k)) (k : Int) = _
      unfold impl_PduText_l1
      rw [dlt (by omega), cond_true, at_nat hk, Option.bind_some, bindTextT (h.2 _ (List.getElem_mem hk)), Option.bind_some, catT (by rw [List.length_singleton]; omega), Option.bind_some, catT (by simp only [List.length_append, List.length_singleton]; omega), Option.bind_some, w64_nat (by omega), take_snoc hk, bndsTx_snoc]
      simp only [List.append_assoc])
    (fun z hz => by
      subst hz
      refine ⟨s ++ bndsTx p.2.2.2.2, ?_, rfl⟩
      show impl_PduText_l1 p _ (p.2.2.2.2.length : Int) = _
      unfold impl_PduText_l1
      rw [dnlt (by omega), cond_false, List.take_length])
    (x := (s, 0)) (by simp [bndsTx])
  exact d1
theorem pdu_loopXS {p : Pdu} (h : PLe M p) (hl : p.2.2.2.2.length ≤ 10) {s : List UInt8} (hs : s.length ≤ 1000) : loop (fun z => spec_PduText_l0 p z.1 z.2) (s, 0) = some (s ++ bndsTx p.2.2.2.2) := by
  obtain ⟨d, d1, rfl⟩ := loop_inv (step := fun z : List UInt8 × Int => spec_PduText_l0 p z.1 z.2) (fun k z => z = (s ++ bndsTx (p.2.2.2.2.take k), (k : Int))) p.2.2.2.2.length (fun d => d = s ++ bndsTx p.2.2.2.2)
    (fun k z hk hz => by
      subst hz
      refine .inl ⟨_, ?_, rfl⟩
      have h1 := bndTx_len p.2.2.2.2[k]
      have h2 := bndsTx_len (p.2.2.2.2.take k)
      have h3 : (p.2.2.2.2.take k).length * 431 ≤ 10 * 431 := Nat.mul_le_mul_right _ (by rw [List.length_take]; omega)
      show spec_PduText_l0 p (s ++ bndsTx (p.2.2.2.2.take k)) (k : Int) = _
      unfold spec_PduText_l0
      rw [dlt (by omega), cond_true, catT (by simp only [List.length_append, List.length_singleton]; omega), Option.bind_some, at_nat hk, Option.bind_some, bindTextS (h.2 _ (List.getElem_mem hk)), Option.bind_some, catT (by simp only [List.length_append, List.length_singleton]; omega), Option.bind_some, w64_nat (by omega), take_snoc hk, bndsTx_snoc]
      simp only [List.append_assoc])
    (fun z hz => by
      subst hz
      refine ⟨s ++ bndsTx p.2.2.2.2, ?_, rfl⟩
      show spec_PduText_l0 p _ (p.2.2.2.2.length : Int) = _
      unfold spec_PduText_l0
      rw [dnlt (by omega), cond_false, List.take_length])
    (x := (s, 0)) (by simp [bndsTx])
  exact d1
theorem pdu_unf {p : Pdu} (h : PLe M p) (hp : pPdu p = true) : impl_PduText p =
    (cat (kindX p.1) [32]).bind fun t21 => (libItoa p.2.1).bind fun t24 => (cat t21 t24).bind fun t25 => (cond (p.1 == 162) (some true) (some (p.1 == 165))).bind fun t33 =>
      cond t33 ((libItoa p.2.2.1).bind fun t37 => (cat [32] t37).bind fun t38 => (cat t38 [32]).bind fun t39 => (libItoa p.2.2.2.1).bind fun t42 => (cat t39 t42).bind fun t43 => (cat t25 t43).bind fun t44 =>
        (loop (fun z => impl_PduText_l1 p z.1 z.2) (t44, 0)).bind fun d => some d)
      ((loop (fun z => impl_PduText_l1 p z.1 z.2) (t25, 0)).bind fun d => some d) := by
  unfold impl_PduText kindX
  rw [pduT h, hp, Option.bind_some, Bool.not_true, cond_false]
  cases p.1 == 160 with
  | true => rfl
  | false =>
    cases p.1 == 161 with
    | true => rfl
    | false =>
      cases p.1 == 162 with
      | true => rfl
      | false =>
        cases p.1 == 163 with
        | true => rfl
        | false => rfl
theorem pduTextT {p : Pdu} (h : PLe M p) : impl_PduText p = some (pduX p) := by
  unfold pduX
  cases hp : pPdu p with
  | false =>
    unfold impl_PduText
    rw [pduT h, hp]; rfl
  | true =>
    obtain ⟨hl, hi, hab⟩ := pPdu_facts hp
    have hk := kindX_len p.1
    have hn := itoa_len (n := p.2.1) (by omega) (by omega)
    rw [pdu_unf h hp, catT (by rw [List.length_singleton]; omega), Option.bind_some, itoaT (by omega) (by omega), Option.bind_some, catT (by simp only [List.length_append, List.length_singleton]; omega), Option.bind_some, cond_true]
    have e : (cond (p.1 == 162) (some true) (some (p.1 == 165)) : Option Bool) = some (p.1 == 162 || p.1 == 165) := by cases p.1 == 162 <;> rfl
    rw [e, Option.bind_some]
    unfold headX
    cases ht : (p.1 == 162 || p.1 == 165) with
    | false =>
      rw [cond_false, pdu_loopX h hl (by simp only [List.length_append, List.length_singleton]; omega), Option.bind_some, cond_false, List.append_nil]
    | true =>
      obtain ⟨ha, hb⟩ := hab ht
      have h1 := itoa_len (n := p.2.2.1) (by omega) (by omega)
      have h2 := itoa_len (n := p.2.2.2.1) (by omega) (by omega)
      rw [cond_true, itoaT (by omega) (by omega), Option.bind_some, catT (by rw [List.length_singleton]; omega), Option.bind_some, catT (by simp only [List.length_append, List.length_singleton]; omega), Option.bind_some, itoaT (by omega) (by omega), Option.bind_some, catT (by simp only [List.length_append, List.length_singleton]; omega), Option.bind_some,
        catT (by simp only [List.length_append, List.length_singleton]; omega), Option.bind_some, pdu_loopX h hl (by simp only [List.length_append, List.length_singleton]; omega), Option.bind_some, cond_true]
theorem pduTextS {p : Pdu} (h : PLe M p) : spec_PduText p = some (pduX p) := by
  unfold pduX spec_PduText
  rw [pduS h, Option.bind_some]
  cases hp : pPdu p with
  | false => rfl
  | true =>
    obtain ⟨hl, hi, hab⟩ := pPdu_facts hp
    have hk := kindX_len p.1
    have hn := itoa_len (n := p.2.1) (by omega) (by omega)
    rw [Bool.not_true, cond_false, kindS, Option.bind_some, catT (by rw [List.length_singleton]; omega), Option.bind_some, numTx (by omega) (by omega), Option.bind_some, catT (by simp only [List.length_append, List.length_singleton]; omega), Option.bind_some, cond_true]
    have e : (cond (p.1 == 162) (some true) (some (p.1 == 165)) : Option Bool) = some (p.1 == 162 || p.1 == 165) := by cases p.1 == 162 <;> rfl
    rw [e, Option.bind_some]
    unfold headX
    cases ht : (p.1 == 162 || p.1 == 165) with
    | false =>
      have el : loop (fun z => spec_PduText_l0_1 p z.1 z.2) (kindX p.1 ++ [32] ++ Lib.itoa p.2.1, 0) = _ := pdu_loopXS h hl (s := kindX p.1 ++ [32] ++ Lib.itoa p.2.1) (by simp only [List.length_append, List.length_singleton]; omega)
      rw [cond_false, el, Option.bind_some, cond_false, List.append_nil]
    | true =>
      obtain ⟨ha, hb⟩ := hab ht
      have h1 := itoa_len (n := p.2.2.1) (by omega) (by omega)
      have h2 := itoa_len (n := p.2.2.2.1) (by omega) (by omega)
      rw [cond_true, catT (by simp only [List.length_append, List.length_singleton]; omega), Option.bind_some, numTx (by omega) (by omega), Option.bind_some, catT (by simp only [List.length_append, List.length_singleton]; omega), Option.bind_some, catT (by simp only [List.length_append, List.length_singleton]; omega), Option.bind_some, numTx (by omega) (by omega), Option.bind_some,
        catT (by simp only [List.length_append, List.length_singleton]; omega), Option.bind_some, pdu_loopXS h hl (by simp only [List.length_append, List.length_singleton]; omega), Option.bind_some, cond_true]
      simp only [List.append_assoc]

set_option linter.unusedVariables false
set_option linter.unusedSimpArgs false
def wd (v : Int) : List UInt8 := cond (v == 1) [114, 111, 111, 116] (cond (v == 2) [116, 111, 108, 100] (cond (v == 3) [105, 100, 108, 101] [100, 111, 119, 110]))
theorem wd_len (v : Int) : (wd v).length = 4 := by
  unfold wd
  cases v == 1 <;> cases v == 2 <;> cases v == 3 <;> rfl
noncomputable def rolW (b : Bridge) (n : Nat) : List (List UInt8) := (List.range n).map fun k : Nat => wd (roleV b.1 b.2.2.1 (k : Int))
noncomputable def rolX (b : Bridge) : List UInt8 := Lib.join (rolW b b.2.2.1.length) [32]
theorem rolW_succ (b : Bridge) (k : Nat) : rolW b (k + 1) = rolW b k ++ [wd (roleV b.1 b.2.2.1 (k : Int))] := by
  unfold rolW; rw [List.range_succ, List.map_append]; rfl
theorem rolW_len (b : Bridge) (k : Nat) : (rolW b k).length = k := by simp [rolW]
theorem rolW_in {b : Bridge} {k : Nat} : ∀ x ∈ rolW b k, x.length ≤ 4 := by
  intro x hx
  obtain ⟨j, _, rfl⟩ := List.mem_map.1 hx
  rw [wd_len]; exact Nat.le_refl _
theorem wd_ix {v : Int} (h : 1 ≤ v ∧ v ≤ 4) {A : Type} (f : List UInt8 → Option A) :
    ((ix ([[114, 111, 111, 116], [116, 111, 108, 100], [105, 100, 108, 101], [100, 111, 119, 110]] : List (List UInt8)).length (w64 (v - 1))).bind fun j => (([[114, 111, 111, 116], [116, 111, 108, 100], [105, 100, 108, 101], [100, 111, 119, 110]] : List (List UInt8))[j]?).bind f) = f (wd v) := by
  obtain rfl | rfl | rfl | rfl : v = 1 ∨ v = 2 ∨ v = 3 ∨ v = 4 := by omega
  · rfl
  · rfl
  · rfl
  · rfl
theorem roleRange {id : Int} {l : List Pt} {p v : Int} (h : impl_RoleOf id l p = some v) : 1 ≤ v ∧ v ≤ 4 := by
  unfold impl_RoleOf at h
  rw [inT, Option.bind_some] at h
  have key : ∀ (o : Option Bool) (f : Bool → Option Int), (∀ t x, f t = some x → 1 ≤ x ∧ x ≤ 4) → o.bind f = some v → 1 ≤ v ∧ v ≤ 4 := by
    intro o f hf h
    cases o with
    | none => cases h
    | some t => exact hf t v h
  refine key _ _ (fun t x hx => ?_) h
  cases t with
  | true => cases hx; decide
  | false =>
    rw [cond_false] at hx
    cases hbv : impl_BestVec id l with
    | none => rw [hbv] at hx; cases hx
    | some w =>
      rw [hbv, Option.bind_some] at hx
      cases hw : w.2 == p with
      | true => rw [hw] at hx; cases hx; decide
      | false =>
        rw [hw, cond_false] at hx
        cases ha : at? l p with
        | none => rw [ha] at hx; cases hx
        | some y =>
          rw [ha, Option.bind_some] at hx
          revert hx
          generalize (cond (!y.2.2.1) _ _ : Option Bool) = o
          intro hx
          cases o with
          | none => cases hx
          | some t => cases t <;> (cases hx; decide)
theorem roleIn (id : Int) {l : List Pt} (hn : l.length < 9223372036854775807) (p : Int) : 1 ≤ roleV id l p ∧ roleV id l p ≤ 4 := roleRange (roleV_eq id hn p)
theorem rolesT {b : Bridge} (h : b.2.2.1.length ≤ M) : impl_RolesText b = some (rolX b) := by
  have h' : b.2.2.1.length ≤ 1048576 := h
  unfold impl_RolesText
  obtain ⟨d, d1, rfl⟩ := loop_inv (step := fun z : Int × List (List UInt8) => impl_RolesText_l0 b z.1 z.2) (fun k z => z = ((k : Int), rolW b k)) b.2.2.1.length (fun d => d = rolW b b.2.2.1.length)
    (fun k z hk hz => by
      subst hz
      refine .inl ⟨_, ?_, rfl⟩
      show impl_RolesText_l0 b (k : Int) (rolW b k) = _
      unfold impl_RolesText_l0
      rw [dlt (by omega), cond_true, roleV_eq _ (by omega), Option.bind_some, wd_ix (roleIn _ (by omega) _), app_big (by rw [rolW_len, List.length_singleton]; omega), Option.bind_some, w64_nat (by omega), rolW_succ])
    (fun z hz => by
      subst hz
      refine ⟨_, ?_, rfl⟩
      show impl_RolesText_l0 b (b.2.2.1.length : Int) _ = _
      unfold impl_RolesText_l0
      rw [dnlt (by omega), cond_false])
    (x := (0, [])) (by simp [rolW])
  rw [d1, Option.bind_some, joinT (m := 4) (by simp) rolW_in (by rw [rolW_len]; exact h') (by omega), Option.bind_some]
  rfl
theorem rolesS {b : Bridge} (h : b.2.2.1.length ≤ M) : spec_RolesText b = some (rolX b) := by
  have h' : b.2.2.1.length ≤ 1048576 := h
  unfold spec_RolesText
  obtain ⟨d, d1, rfl⟩ := loop_inv (step := fun z : List UInt8 × Int => spec_RolesText_l0 b z.1 z.2) (fun k z => z = (Lib.join (rolW b k) [32], (k : Int))) b.2.2.1.length (fun d => d = rolX b)
    (fun k z hk hz => by
      subst hz
      refine .inl ⟨(Lib.join (rolW b (k + 1)) [32], ((k + 1 : Nat) : Int)), ?_, rfl⟩
      have hl := join_len (sep := [32]) (m := 4) (xs := rolW b k) (by simp) rolW_in
      rw [rolW_len] at hl
      have hw := wd_len (roleV b.1 b.2.2.1 (k : Int))
      have hlt : k < 1048576 := by omega
      have key : ∀ (s : List UInt8), s.length ≤ 100000000 → (cond (roleV b.1 b.2.2.1 (k : Int) == 1) ((cat s [114, 111, 111, 116]).bind fun t => some (Sum.inl (t, w64 ((k : Int) + 1)))) (cond (roleV b.1 b.2.2.1 (k : Int) == 2) ((cat s [116, 111, 108, 100]).bind fun t => some (Sum.inl (t, w64 ((k : Int) + 1))))
          (cond (roleV b.1 b.2.2.1 (k : Int) == 3) ((cat s [105, 100, 108, 101]).bind fun t => some (Sum.inl (t, w64 ((k : Int) + 1)))) ((cat s [100, 111, 119, 110]).bind fun t => some (Sum.inl (t, w64 ((k : Int) + 1)))))) : Option ((List UInt8 × Int) ⊕ List UInt8)) = some (.inl (s ++ wd (roleV b.1 b.2.2.1 (k : Int)), ((k + 1 : Nat) : Int))) := by
        intro s hs
        unfold wd
        rw [w64_nat (by omega)]
        cases roleV b.1 b.2.2.1 (k : Int) == 1 with
        | true => rw [cond_true, cond_true, catT (by simp; omega)]; rfl
        | false =>
          cases roleV b.1 b.2.2.1 (k : Int) == 2 with
          | true => simp only [cond_false, cond_true]; rw [catT (by simp; omega)]; rfl
          | false =>
            cases roleV b.1 b.2.2.1 (k : Int) == 3 with
            | true => simp only [cond_false, cond_true]; rw [catT (by simp; omega)]; rfl
            | false => simp only [cond_false]; rw [catT (by simp; omega)]; rfl
      show spec_RolesText_l0 b (Lib.join (rolW b k) [32]) (k : Int) = _
      unfold spec_RolesText_l0
      rw [dlt (by omega), cond_true, roleS, roleV_eq _ (by omega)]
      simp only [Option.bind_some]
      cases k with
      | zero =>
        rw [decide_eq_false (show ¬ ((0 : Nat) : Int) > 0 by omega), cond_false, key _ (by simp [rolW, Lib.join_nil]), rolW_succ]
        simp [rolW, Lib.join_nil, Lib.join_one]
      | succ k =>
        have hne : rolW b (k + 1) ≠ [] := by
          intro e
          have := congrArg List.length e
          rw [rolW_len, List.length_nil] at this; omega
        rw [decide_eq_true (show ((k + 1 : Nat) : Int) > 0 by omega), cond_true, catT (by rw [List.length_singleton]; omega), Option.bind_some, key _ (by rw [List.length_append, List.length_singleton]; omega), rolW_succ b (k + 1), join_snoc _ _ hne])
    (fun z hz => by
      subst hz
      refine ⟨rolX b, ?_, rfl⟩
      show spec_RolesText_l0 b (Lib.join (rolW b b.2.2.1.length) [32]) (b.2.2.1.length : Int) = _
      unfold spec_RolesText_l0
      rw [dnlt (by omega), cond_false]; rfl)
    (x := ([], 0)) (by simp [rolW, Lib.join_nil])
  rw [d1, Option.bind_some]

end Go.V.W

