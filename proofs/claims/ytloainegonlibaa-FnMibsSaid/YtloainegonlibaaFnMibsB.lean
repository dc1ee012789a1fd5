/- The law FnMibs: part of the proof that for every input it returns true. No condition. -/
import Derived.KernelRfl
import Derived.Test.YtloainegonlibaaFnMibs
import Derived.Test.YtloainegonlibaaV3
namespace Go.V.W
set_option linter.unusedVariables false
set_option linter.unusedSimpArgs false
set_option linter.unusedVariables false
abbrev M : Nat := 1048576
abbrev In (left : Int) : Prop := 0 ≤ left ∧ left ≤ 1048576
theorem In.next {left r : Int} (h : In left) (h1 : 0 ≤ r) (h2 : r ≤ left) : In r := ⟨h1, by have := h.2; omega⟩
theorem le32 {n : Nat} (h : n ≤ M) : n ≤ 4294967295 := Nat.le_trans h (by decide)
/-- The slices of a bridge. -/
def BLe (n : Nat) (b : Bridge) : Prop := b.2.1.length ≤ n ∧ b.2.2.1.length ≤ n ∧ b.2.2.2.1.length ≤ n ∧ b.2.2.2.2.1.length ≤ n ∧ b.2.2.2.2.2.1.length ≤ n
def VLe (n : Nat) (v : Val) : Prop := v.2.2.1.length ≤ n ∧ v.2.2.2.length ≤ n
def XLe (n : Nat) (x : Bind) : Prop := x.1.length ≤ n ∧ VLe n x.2
def XsLe (n : Nat) (l : List Bind) : Prop := l.length ≤ n ∧ ∀ x ∈ l, XLe n x
set_option linter.unusedVariables false
set_option linter.unusedSimpArgs false
/-- The same loop. -/
theorem loop_congr {α β : Type} {f g : α → Option (α ⊕ β)} (Inv : α → Prop) (h : ∀ x, Inv x → f x = g x) (hi : ∀ x y, Inv x → f x = some (.inl y) → Inv y) {x : α} (h0 : Inv x) : loop f x = loop g x := by
  have key : ∀ k x, Inv x → iter f k x = iter g k x := by
    intro k
    induction k with
    | zero => intro x _; rfl
    | succ k ih =>
      intro x hx
      rw [iter_succ, iter_succ, ← h x hx]
      cases hf : f x with
      | none => rfl
      | some v => cases v with
        | inl y => exact ih y (hi x y hx hf)
        | inr b => rfl
  have hex : (∃ k, (iter f k x).isSome) ↔ ∃ k, (iter g k x).isSome := by
    constructor <;> rintro ⟨k, hk⟩ <;> exact ⟨k, by first | rwa [← key k x h0] | rwa [key k x h0]⟩
  by_cases hc : ∃ k, (iter f k x).isSome
  · obtain ⟨k, hk⟩ := hc
    cases hv : iter f k x with
    | none => rw [hv] at hk; cases hk
    | some b => rw [loop_of hv, loop_of ((key k x h0) ▸ hv)]
  · have hc' : ¬ ∃ k, (iter g k x).isSome := fun h => hc (hex.2 h)
    unfold loop
    rw [dif_neg hc, dif_neg hc']
theorem loop_ext {α β : Type} {f g : α → Option (α ⊕ β)} (h : ∀ x, f x = g x) (x : α) : loop f x = loop g x := by rw [funext h]
def pIn (x a b : Int) : Bool := decide (x ≥ a) && decide (x ≤ b)
theorem inT (x a b : Int) : impl_in x a b = some (pIn x a b) := by
  unfold impl_in pIn
  cases decide (x ≥ a) <;> rfl
theorem inS (x a b : Int) : spec_l1In x a b = some (pIn x a b) := inT x a b
def pVec (v : Vec) : Bool := pIn v.1 1 99 && (pIn v.2.1 0 100000 && (pIn v.2.2.1 0 10 && (pIn v.2.2.2.1 1 99 && pIn v.2.2.2.2 0 7)))
theorem vecT (v : Vec) : impl_VecOk v = some (pVec v) := by
  unfold impl_VecOk pVec
  simp only [inT, Option.bind_some]
  cases pIn v.1 1 99 <;> cases pIn v.2.1 0 100000 <;> cases pIn v.2.2.1 0 10 <;> cases pIn v.2.2.2.1 1 99 <;> rfl
theorem vecS : spec_VecOk = impl_VecOk := rfl
def pPt (p : Pt) : Bool := pIn p.2.1 1 1000 && (!(p.2.2.1 && !p.1) && (cond p.2.2.1 (pVec p.2.2.2) (p.2.2.2.1 == 0 && (p.2.2.2.2.1 == 0 && (p.2.2.2.2.2.1 == 0 && (p.2.2.2.2.2.2.1 == 0 && (p.2.2.2.2.2.2.2 == 0)))))))
theorem ptT (p : Pt) : impl_PtOk p = some (pPt p) := by
  obtain ⟨up, cost, heard, v⟩ := p
  unfold impl_PtOk pPt
  simp only [inT, vecT, Option.bind_some]
  cases pIn cost 1 1000 <;> cases up <;> cases heard <;> rfl
theorem ptS (p : Pt) : spec_PtOk p = some (pPt p) := by
  obtain ⟨up, cost, heard, v⟩ := p
  unfold spec_PtOk pPt
  simp only [inS, vecS, vecT, Option.bind_some]
  cases pIn cost 1 1000 <;> cases up <;> cases heard <;> rfl
/-! ### a loop that asks of each -/
theorem all_loop {n : Nat} {c : Int → Option Bool} {b : Nat → Bool} (hn : n < 9223372036854775807) (hc : ∀ k, k < n → c (k : Int) = some (b k)) :
    loop (fun i : Int => cond (decide (i < (n : Int))) ((c i).bind fun t => cond t (some (.inr (.inr false))) (some (.inl (w64 (i + 1))))) (some (.inr (.inl ())))) 0 = some (cond ((List.range n).any b) (Sum.inr false) (Sum.inl ()) : Unit ⊕ Bool) := by
  obtain ⟨v, h1, h2⟩ := loop_inv (β := Unit ⊕ Bool) (step := fun i : Int => cond (decide (i < (n : Int))) ((c i).bind fun t => cond t (some (.inr (.inr false))) (some (.inl (w64 (i + 1))))) (some (.inr (.inl ()))))
    (fun k i => i = (k : Int) ∧ (List.range k).any b = false) n (fun v => v = cond ((List.range n).any b) (Sum.inr false) (Sum.inl ()))
    (fun k i hk ⟨e, ha⟩ => by
      subst e
      have hs : (cond (decide ((k : Int) < (n : Int))) ((c (k : Int)).bind fun t => cond t (some (.inr (.inr false))) (some (.inl (w64 ((k : Int) + 1))))) (some (.inr (.inl ()))) : Option (Int ⊕ (Unit ⊕ Bool))) = cond (b k) (some (.inr (.inr false))) (some (.inl ((k + 1 : Nat) : Int))) := by
        rw [dlt (by omega), cond_true, hc k hk, Option.bind_some, w64_nat (by omega)]
      cases hb : b k with
      | true =>
        refine .inr ⟨.inr false, by rw [hs, hb]; rfl, ?_⟩
        have : (List.range n).any b = true := List.any_eq_true.2 ⟨k, List.mem_range.2 hk, hb⟩
        rw [this]; rfl
      | false =>
        refine .inl ⟨_, by rw [hs, hb]; rfl, rfl, ?_⟩
        rw [List.range_succ, List.any_append, ha]; simp [hb])
    (fun i ⟨e, ha⟩ => by
      subst e
      exact ⟨.inl (), by rw [dnlt (by omega), cond_false], by rw [ha]; rfl⟩) (x := 0) ⟨rfl, rfl⟩
  rw [h1, h2]
/-! ### the table of addresses -/
def pFent (e : Fent) : Bool := pIn e.1 1 99 && (pIn e.2.1 1 9999 && (pIn e.2.2.1 0 7 && (pIn e.2.2.2.1 0 4 && (!e.2.2.2.2 || e.2.2.2.1 == 0))))
theorem fentT (e : Fent) : impl_fentOk e = some (pFent e) := by
  unfold impl_fentOk pFent
  simp only [inT, Option.bind_some]
  cases pIn e.1 1 99 <;> cases pIn e.2.1 1 9999 <;> cases pIn e.2.2.1 0 7 <;> cases pIn e.2.2.2.1 0 4 <;> cases e.2.2.2.2 <;> rfl
theorem fentS : spec_l8Ent = impl_fentOk := rfl
def pBehind (e : Fent) (tag mac : Int) : Bool := decide (e.1 > tag) || (e.1 == tag && decide (e.2.1 > mac))
theorem behindT (e : Fent) (tag mac : Int) : impl_behind e tag mac = some (pBehind e tag mac) := by
  unfold impl_behind pBehind
  cases decide (e.1 > tag) <;> cases (e.1 == tag) <;> rfl
theorem aheadS (p e : Fent) : spec_l8Ahead p e.1 e.2.1 = some (pBehind e p.1 p.2.1) := by
  unfold spec_l8Ahead pBehind
  by_cases h : p.1 = e.1
  · simp [h]
  · have h' : ¬ e.1 = p.1 := fun k => h k.symm
    have e1 : (p.1 != e.1) = true := by simpa using h
    have e2 : (e.1 == p.1) = false := by simpa using h'
    rw [e1, e2, cond_true, Bool.false_and, Bool.or_false]
def bFent (l : List Fent) (k : Nat) : Bool := match l[k]? with
  | some e => !(pFent e) || (decide (0 < k) && (match l[k - 1]? with | some p => !(pBehind e p.1 p.2.1) | none => false))
  | none => false
def pFdb (l : List Fent) : Bool := !((List.range l.length).any (bFent l)) && decide ((l.length : Int) ≤ 12)
theorem prev_at {α : Type} {l : List α} {k : Nat} (h : k < l.length) (hk : 0 < k) (hn : l.length < 9223372036854775807) : at? l (w64 ((k : Int) - 1)) = some l[k - 1] := by
  rw [w64_id (by omega) (by omega), show (k : Int) - 1 = ((k - 1 : Nat) : Int) by omega, at_nat (by omega)]
theorem fdbT {l : List Fent} (hn : l.length < 9223372036854775807) : impl_FdbOk l = some (pFdb l) := by
  unfold impl_FdbOk pFdb
  have h := all_loop (n := l.length) (c := fun i => (at? l i).bind fun x10 => (impl_fentOk x10).bind fun t13 => (cond (!t13) (some true) ((cond (decide (i > 0)) ((at? l (w64 (i - 1))).bind fun x23 => (at? l (w64 (i - 1))).bind fun x29 => (impl_behind x10 x23.1 x29.2.1).bind fun t32 => some (!t32)) (some false)).bind fun t34 => some t34)).bind fun t => some t) (b := bFent l) hn (fun k hk => by
    simp only [at_nat hk, Option.bind_some, fentT, bFent, List.getElem?_eq_getElem hk]
    cases pFent l[k] with
    | false => rfl
    | true =>
      by_cases h0 : 0 < k
      · have hd : decide ((k : Int) > 0) = true := decide_eq_true (by omega)
        simp only [hd, prev_at hk h0 hn, Option.bind_some, behindT, decide_eq_true h0, List.getElem?_eq_getElem (show k - 1 < l.length by omega)]
        rfl
      · have hd : decide ((k : Int) > 0) = false := decide_eq_false (by omega)
        simp only [hd, decide_eq_false h0]
        rfl)
  have e : (loop (fun z => impl_FdbOk_l0 l z) 0) = some (cond ((List.range l.length).any (bFent l)) (Sum.inr false) (Sum.inl ())) := by
    rw [← h]
    refine loop_ext (fun i => ?_) 0
    unfold impl_FdbOk_l0
    simp only [Option.bind_assoc, Option.bind_some]
  rw [e, Option.bind_some]
  cases (List.range l.length).any (bFent l) <;> rfl
theorem fdbS {l : List Fent} (hn : l.length < 9223372036854775807) : spec_FdbOk l = some (pFdb l) := by
  unfold spec_FdbOk pFdb
  have h := all_loop (n := l.length) (c := fun i => (at? l i).bind fun x12 => (spec_l8Ent x12).bind fun t14 => (cond (!t14) (some true) ((cond (decide (i > 0)) ((at? l (w64 (i - 1))).bind fun x23 => (at? l i).bind fun x27 => (at? l i).bind fun x32 => (spec_l8Ahead x23 x27.1 x32.2.1).bind fun t35 => some (!t35)) (some false)).bind fun t37 => some t37)).bind fun t => some t) (b := bFent l) hn (fun k hk => by
    simp only [at_nat hk, Option.bind_some, fentS, fentT, bFent, List.getElem?_eq_getElem hk]
    cases pFent l[k] with
    | false => rfl
    | true =>
      by_cases h0 : 0 < k
      · have hd : decide ((k : Int) > 0) = true := decide_eq_true (by omega)
        simp only [hd, prev_at hk h0 hn, Option.bind_some, aheadS, decide_eq_true h0, List.getElem?_eq_getElem (show k - 1 < l.length by omega)]
        rfl
      · have hd : decide ((k : Int) > 0) = false := decide_eq_false (by omega)
        simp only [hd, decide_eq_false h0]
        rfl)
  have e : (loop (fun z => spec_FdbOk_l0 l z) 0) = some (cond ((List.range l.length).any (bFent l)) (Sum.inr false) (Sum.inl ())) := by
    rw [← h]
    refine loop_ext (fun i => ?_) 0
    unfold spec_FdbOk_l0
    simp only [Option.bind_assoc, Option.bind_some]
  rw [e, Option.bind_some]
  cases (List.range l.length).any (bFent l) <;> rfl

set_option linter.unusedVariables false
set_option linter.unusedSimpArgs false
/-! ### networks -/
theorem rowAtS : spec_RowAt = impl_RowAt := rfl
theorem rowAtT {v : Vtab} (hn : v.1.length < 9223372036854775807) (id : Int) : ∃ r, impl_RowAt v id = some r := by
  unfold impl_RowAt
  obtain ⟨b, h1, _⟩ := loop_inv (β := Unit ⊕ Int) (step := fun z => impl_RowAt_l0 v id z) (fun k i => i = (k : Int)) v.1.length (fun _ => True)
    (fun k i hk h => by
      subst h
      unfold impl_RowAt_l0
      rw [dlt (by omega), cond_true, at_nat hk, Option.bind_some]
      cases (v.1[k].1 == id) with
      | true => exact .inr ⟨_, rfl, trivial⟩
      | false => exact .inl ⟨_, rfl, w64_nat (by omega)⟩)
    (fun i h => by
      subst h
      unfold impl_RowAt_l0
      rw [dnlt (by omega)]
      exact ⟨_, rfl, trivial⟩) (x := 0) rfl
  rw [h1, Option.bind_some]
  cases b with
  | inl _ => exact ⟨_, rfl⟩
  | inr r => exact ⟨r, rfl⟩
def pTop (i : Int) : Int := (2 : Int) ^ i.toNat - 1
theorem range6 {i : Int} (h : pIn i 1 6 = true) : i = 1 ∨ i = 2 ∨ i = 3 ∨ i = 4 ∨ i = 5 ∨ i = 6 := by
  unfold pIn at h
  simp only [Bool.and_eq_true, decide_eq_true_eq] at h
  omega
theorem allPortsT {i : Int} (h : pIn i 1 6 = true) : impl_allPorts i = some (pTop i) := by
  rcases range6 h with rfl | rfl | rfl | rfl | rfl | rfl <;> rfl
theorem shlS {i : Int} (h : pIn i 1 6 = true) : ∃ t, shl .i64 1 (IntKind.u64.wrap i) = some t ∧ w64 (t - 1) = pTop i := by
  rcases range6 h with rfl | rfl | rfl | rfl | rfl | rfl <;> exact ⟨_, rfl, rfl⟩
theorem topLe {i : Int} (h : pIn i 1 6 = true) : 1 ≤ pTop i ∧ pTop i ≤ 63 := by
  rcases range6 h with rfl | rfl | rfl | rfl | rfl | rfl <;> decide
/-! #### bits -/
theorem wrap_toNat (x : BitVec 64) : IntKind.i64.wrap (x.toNat : Int) = x.toInt := by
  have hx := x.isLt
  rw [BitVec.toInt_eq_toNat_cond]
  show (let m := (x.toNat : Int) % 18446744073709551616; if (true && decide (m ≥ 9223372036854775808)) = true then m - 18446744073709551616 else m) = _
  simp only [Bool.true_and, decide_eq_true_eq]
  have h1 : (x.toNat : Int) % 18446744073709551616 = (x.toNat : Int) := by omega
  rw [h1]
  split <;> split <;> omega
theorem ofInt_toInt {b : Int} (h1 : -9223372036854775808 ≤ b) (h2 : b ≤ 9223372036854775807) : (BitVec.ofInt 64 b).toInt = b := by
  rw [BitVec.toInt_ofInt]
  unfold Int.bmod
  simp only
  split <;> omega
theorem bandT (a b : Int) : band .i64 a b = (BitVec.ofInt 64 a &&& BitVec.ofInt 64 b).toInt := wrap_toNat _
theorem bclrT (a b : Int) : bclr .i64 a b = (BitVec.ofInt 64 a &&& ~~~ BitVec.ofInt 64 b).toInt := wrap_toNat _
theorem and_iff (x y : BitVec 64) : x &&& y = x ↔ x &&& ~~~ y = 0 := by
  constructor
  · intro h
    apply BitVec.eq_of_getLsbD_eq
    intro i hi
    have := congrArg (fun z => z.getLsbD i) h
    simp only [BitVec.getLsbD_and] at this
    simp only [BitVec.getLsbD_and, BitVec.getLsbD_not, BitVec.getLsbD_zero, hi, decide_true, Bool.true_and]
    cases hx : x.getLsbD i <;> cases hy : y.getLsbD i <;> simp_all
  · intro h
    apply BitVec.eq_of_getLsbD_eq
    intro i hi
    have := congrArg (fun z => z.getLsbD i) h
    simp only [BitVec.getLsbD_and, BitVec.getLsbD_not, BitVec.getLsbD_zero, hi, decide_true, Bool.true_and] at this
    simp only [BitVec.getLsbD_and]
    cases hx : x.getLsbD i <;> cases hy : y.getLsbD i <;> simp_all
/-- What is held back is among what is meant, said in two ways. -/
theorem bits_same {b m : Int} (h1 : -9223372036854775808 ≤ b) (h2 : b ≤ 9223372036854775807) : (band .i64 b m != b) = (bclr .i64 b m != 0) := by
  rw [bandT, bclrT]
  have e : ((BitVec.ofInt 64 b &&& BitVec.ofInt 64 m).toInt = b) ↔ ((BitVec.ofInt 64 b &&& ~~~ BitVec.ofInt 64 m).toInt = 0) := by
    constructor
    · intro h
      have : BitVec.ofInt 64 b &&& BitVec.ofInt 64 m = BitVec.ofInt 64 b := BitVec.eq_of_toInt_eq (by rw [h, ofInt_toInt h1 h2])
      rw [(and_iff _ _).1 this]; rfl
    · intro h
      have : BitVec.ofInt 64 b &&& ~~~ BitVec.ofInt 64 m = 0 := BitVec.eq_of_toInt_eq (by rw [h]; rfl)
      rw [(and_iff _ _).2 this, ofInt_toInt h1 h2]
  by_cases h : (BitVec.ofInt 64 b &&& BitVec.ofInt 64 m).toInt = b
  · have h' := e.1 h
    simp [h, h']
  · have h' : ¬ (BitVec.ofInt 64 b &&& ~~~ BitVec.ofInt 64 m).toInt = 0 := fun k => h (e.2 k)
    rw [bne_iff_ne.2 h, bne_iff_ne.2 h']
theorem bits_in {b m t : Int} (h1 : -9223372036854775808 ≤ b) (h2 : b ≤ 9223372036854775807) (hm : pIn m 0 t = true) (ht : t ≤ 63) (h : (band .i64 b m != b) = false) : pIn b 0 t = true := by
  unfold pIn at hm ⊢
  simp only [Bool.and_eq_true, decide_eq_true_eq] at hm ⊢
  have h : band .i64 b m = b := by simpa using h
  rw [bandT] at h
  have e : BitVec.ofInt 64 b &&& BitVec.ofInt 64 m = BitVec.ofInt 64 b := BitVec.eq_of_toInt_eq (by rw [h, ofInt_toInt h1 h2])
  have hM : (BitVec.ofInt 64 m).toNat = m.toNat := by
    rw [BitVec.toNat_ofInt]
    omega
  have hle : (BitVec.ofInt 64 b).toNat ≤ m.toNat := by
    rw [← e, BitVec.toNat_and, hM]; exact Nat.and_le_right
  have hb : (BitVec.ofInt 64 b).toInt = ((BitVec.ofInt 64 b).toNat : Int) := by
    rw [BitVec.toInt_eq_toNat_cond]; split <;> omega
  rw [ofInt_toInt h1 h2] at hb
  omega
def bRow (v : Vtab) (i : Int) (k : Nat) : Bool := match v.1[k]? with
  | some r => !(pIn r.1 1 99) || ((decide (0 < k) && (match v.1[k - 1]? with | some p => decide (p.1 ≥ r.1) | none => false)) || (!(pIn r.2.1 0 (pTop i)) || (bclr .i64 r.2.2 r.2.1 != 0)))
  | none => false
noncomputable def bPvid (v : Vtab) (k : Nat) : Bool := match v.2[k]? with
  | some x => (match impl_RowAt v x with | some t => decide (t < 0) | none => false)
  | none => false
noncomputable def pVtab (v : Vtab) (i : Int) : Bool := !(!(pIn i 1 6) || ((v.2.length : Int) != i || decide ((v.1.length : Int) > 6))) && (!((List.range v.1.length).any (bRow v i)) && !((List.range v.2.length).any (bPvid v)))
theorem rows_loop {v : Vtab} {i : Int} (hi : pIn i 1 6 = true) (hn : v.1.length < 9223372036854775807) : loop (fun z => impl_VtabOk_l0 v i z) 0 = some (cond ((List.range v.1.length).any (bRow v i)) (Sum.inr false) (Sum.inl ())) := by
  rw [← all_loop (n := v.1.length) (c := fun t28 => (at? v.1 t28).bind fun x31 =>
    (impl_in x31.1 1 99).bind fun t35 =>
    (cond (!t35) (some true) ((cond (decide (t28 > 0)) ((at? v.1 (w64 (t28 - 1))).bind fun x45 => some (decide (x45.1 ≥ x31.1))) (some false)).bind fun t51 => some t51)).bind fun t52 =>
    (cond t52 (some true) ((impl_allPorts i).bind fun t57 => (impl_in x31.2.1 0 t57).bind fun t58 => some (!t58))).bind fun t60 =>
    (cond t60 (some true) (some ((bclr .i64 x31.2.2 x31.2.1) != 0))).bind fun t => some t) (b := bRow v i) hn (fun k hk => by
      simp only [at_nat hk, Option.bind_some, inT, bRow, List.getElem?_eq_getElem hk, allPortsT hi]
      cases pIn v.1[k].1 1 99 with
      | false => rfl
      | true =>
        by_cases h0 : 0 < k
        · have hd : decide ((k : Int) > 0) = true := decide_eq_true (by omega)
          simp only [hd, prev_at hk h0 hn, Option.bind_some, decide_eq_true h0, List.getElem?_eq_getElem (show k - 1 < v.1.length by omega)]
          cases decide (v.1[k - 1].1 ≥ v.1[k].1) <;> cases pIn v.1[k].2.1 0 (pTop i) <;> rfl
        · have hd : decide ((k : Int) > 0) = false := decide_eq_false (by omega)
          simp only [hd, decide_eq_false h0]
          cases pIn v.1[k].2.1 0 (pTop i) <;> rfl)]
  refine loop_ext (fun i => ?_) 0
  unfold impl_VtabOk_l0
  simp only [Option.bind_assoc, Option.bind_some]
theorem rows_loopS {v : Vtab} {i t : Int} (hi : pIn i 1 6 = true) (ht : w64 (t - 1) = pTop i) (hn : v.1.length < 9223372036854775807) (hw : ∀ r ∈ v.1, -9223372036854775808 ≤ r.2.2 ∧ r.2.2 ≤ 9223372036854775807) : loop (fun z => spec_VtabOk_l0 v t z) 0 = some (cond ((List.range v.1.length).any (bRow v i)) (Sum.inr false) (Sum.inl ())) := by
  rw [← all_loop (n := v.1.length) (c := fun t6 => (at? v.1 t6).bind fun x39 =>
    (spec_l1In x39.1 1 99).bind fun t43 =>
    (cond (!t43) (some true) ((spec_l1In x39.2.1 0 (w64 (t - 1))).bind fun t49 => some (!t49))).bind fun t51 =>
    (cond t51 (some true) ((spec_l1In x39.2.2 0 (w64 (t - 1))).bind fun t56 => some (!t56))).bind fun t58 =>
    (cond t58 (some true) (some ((band .i64 x39.2.2 x39.2.1) != x39.2.2))).bind fun t68 =>
    (cond t68 (some true) ((cond (decide (t6 > 0)) ((at? v.1 (w64 (t6 - 1))).bind fun x77 => some (decide (x77.1 ≥ x39.1))) (some false)).bind fun t83 => some t83)).bind fun t => some t) (b := bRow v i) hn (fun k hk => by
      obtain ⟨w1, w2⟩ := hw _ (List.getElem_mem hk)
      have hs := bits_same (m := v.1[k].2.1) w1 w2
      have hin := bits_in (m := v.1[k].2.1) (t := pTop i) w1 w2
      have ht2 := (topLe hi).2
      simp only [at_nat hk, Option.bind_some, inS, bRow, List.getElem?_eq_getElem hk, ht]
      rw [← hs]
      cases h1 : pIn v.1[k].1 1 99 with
      | false => rfl
      | true =>
        cases h2 : pIn v.1[k].2.1 0 (pTop i) with
        | false =>
          by_cases h0 : 0 < k
          · simp only [decide_eq_true h0, List.getElem?_eq_getElem (show k - 1 < v.1.length by omega)]
            cases decide (v.1[k - 1].1 ≥ v.1[k].1) <;> rfl
          · simp only [decide_eq_false h0]; rfl
        | true =>
          cases h3 : (band .i64 v.1[k].2.2 v.1[k].2.1 != v.1[k].2.2) with
          | true =>
            by_cases h0 : 0 < k
            · simp only [decide_eq_true h0, List.getElem?_eq_getElem (show k - 1 < v.1.length by omega)]
              cases decide (v.1[k - 1].1 ≥ v.1[k].1) <;> cases pIn v.1[k].2.2 0 (pTop i) <;> rfl
            · simp only [decide_eq_false h0]; cases pIn v.1[k].2.2 0 (pTop i) <;> rfl
          | false =>
            have h4 := hin h2 ht2 h3
            rw [h4]
            by_cases h0 : 0 < k
            · have hd : decide ((k : Int) > 0) = true := decide_eq_true (by omega)
              simp only [hd, prev_at hk h0 hn, Option.bind_some, decide_eq_true h0, List.getElem?_eq_getElem (show k - 1 < v.1.length by omega)]
              cases decide (v.1[k - 1].1 ≥ v.1[k].1) <;> rfl
            · have hd : decide ((k : Int) > 0) = false := decide_eq_false (by omega)
              simp only [hd, decide_eq_false h0]
              rfl)]
  refine loop_ext (fun i => ?_) 0
  unfold spec_VtabOk_l0
  simp only [Option.bind_assoc, Option.bind_some]
theorem pvid_loop {v : Vtab} (hn : v.1.length < 9223372036854775807) (hn2 : v.2.length < 9223372036854775807) : loop (fun z => impl_VtabOk_l2 v z) 0 = some (cond ((List.range v.2.length).any (bPvid v)) (Sum.inr false) (Sum.inl ())) := by
  rw [← all_loop (n := v.2.length) (c := fun t73 => (at? v.2 t73).bind fun x75 => (impl_RowAt v x75).bind fun t79 => some (decide (t79 < 0))) (b := bPvid v) hn2 (fun k hk => by
    obtain ⟨r, hr⟩ := rowAtT hn v.2[k]
    simp only [at_nat hk, Option.bind_some, bPvid, List.getElem?_eq_getElem hk, hr])]
  refine loop_ext (fun i => ?_) 0
  unfold impl_VtabOk_l2
  simp only [Option.bind_assoc, Option.bind_some]
theorem pvidS : spec_VtabOk_l2 = impl_VtabOk_l2 := rfl
theorem vtabT {v : Vtab} (i : Int) (hn : v.1.length < 9223372036854775807) (hn2 : v.2.length < 9223372036854775807) : impl_VtabOk v i = some (pVtab v i) := by
  unfold impl_VtabOk pVtab
  simp only [inT, Option.bind_some]
  cases hi : pIn i 1 6 with
  | false => rfl
  | true =>
    rw [rows_loop hi hn, pvid_loop hn hn2]
    cases ((v.2.length : Int) != i) <;> cases decide ((v.1.length : Int) > 6) <;> cases (List.range v.1.length).any (bRow v i) <;> cases (List.range v.2.length).any (bPvid v) <;> rfl
theorem vtabS {v : Vtab} (i : Int) (hn : v.1.length < 9223372036854775807) (hn2 : v.2.length < 9223372036854775807) (hw : ∀ r ∈ v.1, -9223372036854775808 ≤ r.2.2 ∧ r.2.2 ≤ 9223372036854775807) : spec_VtabOk v i = some (pVtab v i) := by
  unfold spec_VtabOk pVtab
  simp only [inS, Option.bind_some, pvidS]
  cases hi : pIn i 1 6 with
  | false => rfl
  | true =>
    obtain ⟨t, h1, h2⟩ := shlS hi
    rw [h1, Option.bind_some, rows_loopS hi h2 hn hw, pvid_loop hn hn2]
    cases ((v.2.length : Int) != i) <;> cases decide ((v.1.length : Int) > 6) <;> cases (List.range v.1.length).any (bRow v i) <;> cases (List.range v.2.length).any (bPvid v) <;> rfl
/-! ### a bridge -/
def bPt (l : List Pt) (k : Nat) : Bool := match l[k]? with | some p => !(pPt p) | none => false
def pCounts (b : Bridge) : Bool := pIn b.2.2.2.2.2.2.1 0 1000000 && (pIn b.2.2.2.2.2.2.2.1 0 1000000 && (pIn b.2.2.2.2.2.2.2.2.1 0 1000000 && (pIn b.2.2.2.2.2.2.2.2.2.1 0 1000000 && pIn b.2.2.2.2.2.2.2.2.2.2 0 1000000)))
noncomputable def pBridge (b : Bridge) : Bool := !((List.range b.2.2.1.length).any (bPt b.2.2.1)) && (pIn b.1 1 99 && (!(decide ((b.2.1.length : Int) > 10)) && (pIn (b.2.2.1.length : Int) 1 6 && (pFdb b.2.2.2.1 && (pVtab (b.2.2.2.2.1, b.2.2.2.2.2.1) (b.2.2.1.length : Int) && pCounts b)))))
/-- A bridge whose slices are no longer than slices are, and whose numbers are. -/
structure BWf (b : Bridge) : Prop where
  p : b.2.2.1.length < 9223372036854775807
  f : b.2.2.2.1.length < 9223372036854775807
  v : b.2.2.2.2.1.length < 9223372036854775807
  q : b.2.2.2.2.2.1.length < 9223372036854775807
  r : ∀ r ∈ b.2.2.2.2.1, -9223372036854775808 ≤ r.2.2 ∧ r.2.2 ≤ 9223372036854775807
theorem ports_loop {b : Bridge} (h : BWf b) : loop (fun z => impl_BridgeOk_l0 b z) 0 = some (cond ((List.range b.2.2.1.length).any (bPt b.2.2.1)) (Sum.inr false) (Sum.inl ())) := by
  rw [← all_loop (n := b.2.2.1.length) (c := fun t8 => (at? b.2.2.1 t8).bind fun x10 => (impl_PtOk x10).bind fun t13 => some (!t13)) (b := bPt b.2.2.1) h.p (fun k hk => by
    simp only [at_nat hk, Option.bind_some, bPt, List.getElem?_eq_getElem hk, ptT])]
  refine loop_ext (fun i => ?_) 0
  unfold impl_BridgeOk_l0
  simp only [Option.bind_assoc, Option.bind_some]
theorem ports_loopS {b : Bridge} (h : BWf b) : loop (fun z => spec_BridgeOk_l0 b z) 0 = some (cond ((List.range b.2.2.1.length).any (bPt b.2.2.1)) (Sum.inr false) (Sum.inl ())) := by
  rw [← all_loop (n := b.2.2.1.length) (c := fun t8 => (at? b.2.2.1 t8).bind fun x10 => (spec_PtOk x10).bind fun t13 => some (!t13)) (b := bPt b.2.2.1) h.p (fun k hk => by
    simp only [at_nat hk, Option.bind_some, bPt, List.getElem?_eq_getElem hk, ptS])]
  refine loop_ext (fun i => ?_) 0
  unfold spec_BridgeOk_l0
  simp only [Option.bind_assoc, Option.bind_some]
theorem countsS (b : Bridge) : spec_l11Counts b = some (pCounts b) := by
  unfold spec_l11Counts pCounts
  simp only [inS, Option.bind_some]
  cases pIn b.2.2.2.2.2.2.1 0 1000000 <;> cases pIn b.2.2.2.2.2.2.2.1 0 1000000 <;> cases pIn b.2.2.2.2.2.2.2.2.1 0 1000000 <;> cases pIn b.2.2.2.2.2.2.2.2.2.1 0 1000000 <;> rfl
theorem countT (n : Int) : impl_isCount n = some (pIn n 0 1000000) := by unfold impl_isCount; rw [inT, Option.bind_some]
theorem bridgeT {b : Bridge} (h : BWf b) : impl_BridgeOk b = some (pBridge b) := by
  unfold impl_BridgeOk pBridge pCounts
  rw [ports_loop h, Option.bind_some]
  cases (List.range b.2.2.1.length).any (bPt b.2.2.1) with
  | true => rfl
  | false =>
    simp only [cond_false, Sum.elim_inl, inT, fdbT h.f, vtabT (v := (b.2.2.2.2.1, b.2.2.2.2.2.1)) _ h.v h.q, countT, Option.bind_some]
    cases pIn b.1 1 99 <;> cases decide ((b.2.1.length : Int) > 10) <;> cases pIn (b.2.2.1.length : Int) 1 6 <;> cases pFdb b.2.2.2.1 <;> cases pVtab (b.2.2.2.2.1, b.2.2.2.2.2.1) (b.2.2.1.length : Int) <;>
      cases pIn b.2.2.2.2.2.2.1 0 1000000 <;> cases pIn b.2.2.2.2.2.2.2.1 0 1000000 <;> cases pIn b.2.2.2.2.2.2.2.2.1 0 1000000 <;> cases pIn b.2.2.2.2.2.2.2.2.2.1 0 1000000 <;> rfl
theorem bridgeS {b : Bridge} (h : BWf b) : spec_BridgeOk b = some (pBridge b) := by
  unfold spec_BridgeOk pBridge
  rw [ports_loopS h, Option.bind_some]
  cases (List.range b.2.2.1.length).any (bPt b.2.2.1) with
  | true => rfl
  | false =>
    have e : decide ((b.2.1.length : Int) ≤ 10) = !(decide ((b.2.1.length : Int) > 10)) := by
      by_cases hh : (b.2.1.length : Int) > 10
      · rw [decide_eq_true hh, decide_eq_false (by omega)]; rfl
      · rw [decide_eq_false hh, decide_eq_true (by omega)]; rfl
    simp only [cond_false, Sum.elim_inl, inS, fdbS h.f, vtabS (v := (b.2.2.2.2.1, b.2.2.2.2.2.1)) _ h.v h.q h.r, countsS, Option.bind_some, e]
    cases pIn b.1 1 99 <;> cases decide ((b.2.1.length : Int) > 10) <;> cases pIn (b.2.2.1.length : Int) 1 6 <;> cases pFdb b.2.2.2.1 <;> cases pVtab (b.2.2.2.2.1, b.2.2.2.2.2.1) (b.2.2.1.length : Int) <;> cases pCounts b <;> rfl
theorem bridge_same {b : Bridge} (h : BWf b) : spec_BridgeOk b = impl_BridgeOk b := by rw [bridgeS h, bridgeT h]

set_option linter.unusedVariables false
set_option linter.unusedSimpArgs false
/-! ### roles -/
theorem lessS : spec_LessVec = impl_LessVec := rfl
theorem lessT (a b : Vec) : ∃ r, impl_LessVec a b = some r := by
  unfold impl_LessVec
  cases (a.1 != b.1) <;> cases (a.2.1 != b.2.1) <;> cases (a.2.2.2.1 != b.2.2.2.1) <;> exact ⟨_, rfl⟩
theorem stepS : spec_StepVec = impl_StepVec := rfl
theorem stepT (v : Vec) (c : Int) : ∃ r, impl_StepVec v c = some r := by
  unfold impl_StepVec
  simp only [vecT, inT, Option.bind_some]
  cases pVec v <;> cases pIn c 1 1000 <;> first | exact ⟨_, rfl⟩ | skip
  generalize pVec (v.1, w64 (v.2.1 + c), w64 (v.2.2.1 + 1), v.2.2.2.1, v.2.2.2.2) = q
  cases q <;> exact ⟨_, rfl⟩
theorem bestL (p0 : Int) (l : List Pt) (t8 t9 b0 b1 b2 b3 b4 c0 c1 c2 c3 c4 : Int) : spec_BestVec_l0 p0 l t8 t9 b0 b1 b2 b3 b4 c0 c1 c2 c3 c4 = impl_BestVec_l0 p0 l t8 t9 b0 b1 b2 b3 b4 c0 c1 c2 c3 c4 := by
  unfold spec_BestVec_l0 impl_BestVec_l0
  rw [stepS, lessS]
  cases h : at? l t9 with
  | none => rfl
  | some x => simp only [Option.bind_some]
theorem bestS : spec_BestVec = impl_BestVec := by
  funext p0 l
  unfold spec_BestVec impl_BestVec
  rw [loop_ext (fun z => bestL p0 l _ _ _ _ _ _ _ _ _ _ _ _)]
theorem bestT (p0 : Int) {l : List Pt} (hn : l.length < 9223372036854775807) : ∃ r, impl_BestVec p0 l = some r := by
  unfold impl_BestVec
  obtain ⟨b, h1, _⟩ := loop_inv (step := fun z : Int × Int × Int × Int × Int × Int × Int × Int × Int × Int × Int × Int => impl_BestVec_l0 p0 l z.1 z.2.1 z.2.2.1 z.2.2.2.1 z.2.2.2.2.1 z.2.2.2.2.2.1 z.2.2.2.2.2.2.1 z.2.2.2.2.2.2.2.1 z.2.2.2.2.2.2.2.2.1 z.2.2.2.2.2.2.2.2.2.1 z.2.2.2.2.2.2.2.2.2.2.1 z.2.2.2.2.2.2.2.2.2.2.2)
    (fun k z => z.2.1 = (k : Int)) l.length (fun _ => True)
    (fun k z hk h => by
      left
      obtain ⟨t7, t18, b0, b1, b2, b3, b4, c0, c1, c2, c3, c4⟩ := z
      obtain rfl : t18 = (k : Int) := h
      unfold impl_BestVec_l0
      simp only [dlt (show (k : Int) < (l.length : Int) by omega), cond_true, at_nat hk, Option.bind_some]
      rw [show w64 ((k : Int) + 1) = ((k + 1 : Nat) : Int) from w64_nat (by omega)]
      generalize l[k] = x
      have e : (cond (!x.1) (some true) (some (!x.2.2.1)) : Option Bool) = some (cond (!x.1) true (!x.2.2.1)) := by cases x.1 <;> rfl
      rw [e, Option.bind_some]
      cases (cond (!x.1) true (!x.2.2.1)) with
      | true => exact ⟨_, rfl, rfl⟩
      | false =>
        obtain ⟨r, hr⟩ := stepT x.2.2.2 x.2.1
        obtain ⟨q, hq⟩ := lessT r.1 (c0, c1, c2, c3, c4)
        rw [cond_false, hr, Option.bind_some, hq]
        cases r.2 <;> cases decide (r.1.1 < p0) <;> cases decide (t7 < 0) <;> cases q <;> exact ⟨_, rfl, rfl⟩)
    (fun z h => by
      obtain ⟨t7, t18, b0, b1, b2, b3, b4, c0, c1, c2, c3, c4⟩ := z
      obtain rfl : t18 = (l.length : Int) := h
      unfold impl_BestVec_l0
      simp only [dnlt (show ¬ (l.length : Int) < (l.length : Int) by omega), cond_false]
      exact ⟨_, rfl, trivial⟩) (x := ((-1), 0, p0, 0, 0, p0, 0, 0, 0, 0, 0, 0)) rfl
  rw [h1, Option.bind_some]
  exact ⟨_, rfl⟩
theorem sayS : spec_SayVec = impl_SayVec := by
  funext id l p
  unfold spec_SayVec impl_SayVec
  rw [bestS]
theorem roleS : spec_RoleOf = impl_RoleOf := by
  funext id l p
  unfold spec_RoleOf impl_RoleOf
  rw [bestS, sayS, lessS]
  rfl
theorem roleT (id : Int) {l : List Pt} (hn : l.length < 9223372036854775807) (p : Int) : ∃ r, impl_RoleOf id l p = some r := by
  obtain ⟨v, hv⟩ := bestT id hn
  unfold impl_RoleOf impl_SayVec
  simp only [inT, Option.bind_some, hv]
  rw [show w64 ((l.length : Int) - 1) = (l.length : Int) - 1 from w64_id (by omega) (by omega)]
  cases hp : pIn p 0 ((l.length : Int) - 1) with
  | false => exact ⟨_, rfl⟩
  | true =>
    unfold pIn at hp
    simp only [Bool.and_eq_true, decide_eq_true_eq] at hp
    obtain ⟨k, rfl⟩ : ∃ k : Nat, p = (k : Int) := ⟨p.toNat, by omega⟩
    simp only [at_nat (show k < l.length by omega), Option.bind_some]
    generalize l[k]'(by omega) = x
    obtain ⟨q, hq⟩ := lessT (v.1.1, v.1.2.1, v.1.2.2.1, v.1.2.2.2.1, (k : Int)) x.2.2.2
    rw [hq]
    cases x.1 <;> cases (v.2 == (k : Int)) <;> cases x.2.2.1 <;> cases q <;> exact ⟨_, rfl⟩
theorem portS (b : Bridge) (c p : Int) : spec_l17Port b c p = impl_portThing b c p := by
  unfold spec_l17Port impl_portThing impl_bit
  rw [roleS]
  cases at? b.2.2.1 p with
  | none => rfl
  | some x => simp only [Option.bind_some]; cases x.1 <;> rfl
/-! ### things -/
theorem add_same {α : Type} (out : List Bind) (name : List Int) (n : Int) (f : List Bind → Option α) : ((impl_number n).bind fun v => (impl_thing v name).bind fun t => (app out [t]).bind f) = (spec_l17Add out name n).bind f := by
  unfold impl_number impl_thing spec_l17Add spec_l17Name spec_l3Int
  simp only [Option.bind_some, Option.bind_assoc]
theorem mibPorts (b : Bridge) (c i : Int) (out : List Bind) : spec_MibList_l2 b c i out = impl_MibList_l4 b c i out := by
  unfold spec_MibList_l2 impl_MibList_l4
  simp only [portS, add_same]
theorem rowS {r : Vrow} {c : Int} (h : 1 ≤ c ∧ c ≤ 3) : ((ix [1, r.2.1, r.2.2].length (w64 (c - 1))).bind fun j => ([1, r.2.1, r.2.2][j]?).bind fun x => some x) = spec_l17Row r c := by
  have : c = 1 ∨ c = 2 ∨ c = 3 := by omega
  rcases this with rfl | rfl | rfl <;> rfl
theorem mibRows (b : Bridge) {c : Int} (h : 1 ≤ c ∧ c ≤ 3) (i : Int) (out : List Bind) : spec_MibList_l6 b c i out = impl_MibList_l8 b c i out := by
  unfold spec_MibList_l6 impl_MibList_l8
  cases hr : at? b.2.2.2.2.1 i with
  | none => rfl
  | some r =>
    simp only [Option.bind_some, ← rowS (r := r) h, Option.bind_assoc, add_same]
theorem mibFdb (b : Bridge) (i : Int) (out : List Bind) : spec_MibList_l8 b i out = impl_MibList_l10 b i out := by
  unfold spec_MibList_l8 impl_MibList_l10
  cases hr : at? b.2.2.2.1 i with
  | none => rfl
  | some r => simp only [Option.bind_some, add_same]
theorem mibL2 (b : Bridge) (c : Int) (out : List Bind) : spec_MibList_l0 b c out = impl_MibList_l2 b c out := by
  unfold spec_MibList_l0 impl_MibList_l2
  rw [loop_ext (fun z => mibPorts b c _ _)]
theorem mibL6 (b : Bridge) {c : Int} (h : 1 ≤ c) (out : List Bind) : spec_MibList_l4 b c out = impl_MibList_l6 b c out := by
  unfold spec_MibList_l4 impl_MibList_l6
  by_cases h3 : c ≤ 3
  · rw [loop_ext (fun z => mibRows b ⟨h, h3⟩ _ _)]
  · rw [decide_eq_false h3]; rfl
theorem mibL6_next (b : Bridge) {c : Int} {out : List Bind} {y : Int × List Bind} (h : 1 ≤ c) (e : spec_MibList_l4 b c out = some (.inl y)) : 1 ≤ y.1 := by
  unfold spec_MibList_l4 at e
  by_cases h3 : c ≤ 3
  · rw [decide_eq_true h3, cond_true, Option.bind_eq_some_iff] at e
    obtain ⟨d, _, e⟩ := e
    cases e
    show 1 ≤ w64 (c + 1)
    rw [w64_id (by omega) (by omega)]; omega
  · rw [decide_eq_false h3] at e; cases e
/-- The first five. -/
def mib5 (b : Bridge) : List Bind := [([1, 3, 1, 1, 1], 4, 0, b.2.1, []), ([1, 3, 1, 1, 2], 2, b.2.2.2.2.2.2.1, [], []), ([1, 3, 1, 1, 3], 2, b.2.2.2.2.2.2.2.1, [], []), ([1, 3, 1, 1, 4], 2, b.2.2.2.2.2.2.2.2.1, [], []), ([1, 3, 1, 1, 5], 2, b.2.2.2.2.2.2.2.2.2.1, [], [])]
theorem mibA (b : Bridge) : impl_thing (4, 0, b.2.1, []) ([1, 1] : List Int) = some ([1, 3, 1, 1, 1], 4, 0, b.2.1, []) := by kernel_rfl
theorem mibB (b : Bridge) : iter (fun z => impl_MibList_l0 b z.1 z.2) 5 (0, [([1, 3, 1, 1, 1], 4, 0, b.2.1, [])]) = some (mib5 b) := by kernel_rfl
theorem mibC (b : Bridge) : ((spec_l17Name ([1, 1] : List Int)).bind fun t14 => (spec_l17Add ([(t14, 4, 0, b.2.1, [])]) ([1, 2] : List Int) b.2.2.2.2.2.2.1).bind fun t24 => (spec_l17Add t24 ([1, 3] : List Int) b.2.2.2.2.2.2.2.1).bind fun t29 =>
    (spec_l17Add t29 ([1, 4] : List Int) b.2.2.2.2.2.2.2.2.1).bind fun t34 => (spec_l17Add t34 ([1, 5] : List Int) b.2.2.2.2.2.2.2.2.2.1)) = some (mib5 b) := by kernel_rfl
noncomputable def mibRest (b : Bridge) (l : List Bind) : Option (List Bind) :=
  (loop (fun z => impl_MibList_l2 b z.1 z.2) (1, l)).bind fun d_2 =>
    (loop (fun z => impl_MibList_l6 b z.1 z.2) (1, d_2)).bind fun d_4 =>
    (loop (fun z => impl_MibList_l10 b z.1 z.2) (0, d_4)).bind fun d_5 =>
    some d_5
theorem mibT {b : Bridge} (h : BWf b) : impl_MibList b = cond (!(pBridge b)) (some []) (mibRest b (mib5 b)) := by
  unfold impl_MibList
  rw [bridgeT h, Option.bind_some, mibA, Option.bind_some, loop_of (mibB b), Option.bind_some]
  rfl
theorem mibS {b : Bridge} (h : BWf b) : spec_MibList b = cond (!(pBridge b)) (some []) (mibRest b (mib5 b)) := by
  unfold spec_MibList
  rw [bridgeS h, Option.bind_some]
  have hc := mibC b
  have e : ∀ {α : Type} (f : List Bind → Option α), ((spec_l17Name ([1, 1] : List Int)).bind fun t14 => (spec_l17Add ([(t14, 4, 0, b.2.1, [])]) ([1, 2] : List Int) b.2.2.2.2.2.2.1).bind fun t24 => (spec_l17Add t24 ([1, 3] : List Int) b.2.2.2.2.2.2.2.1).bind fun t29 =>
    (spec_l17Add t29 ([1, 4] : List Int) b.2.2.2.2.2.2.2.2.1).bind fun t34 => (spec_l17Add t34 ([1, 5] : List Int) b.2.2.2.2.2.2.2.2.2.1).bind f) = f (mib5 b) := by
    intro α f
    have : ((spec_l17Name ([1, 1] : List Int)).bind fun t14 => (spec_l17Add ([(t14, 4, 0, b.2.1, [])]) ([1, 2] : List Int) b.2.2.2.2.2.2.1).bind fun t24 => (spec_l17Add t24 ([1, 3] : List Int) b.2.2.2.2.2.2.2.1).bind fun t29 =>
      (spec_l17Add t29 ([1, 4] : List Int) b.2.2.2.2.2.2.2.2.1).bind fun t34 => (spec_l17Add t34 ([1, 5] : List Int) b.2.2.2.2.2.2.2.2.2.1)).bind f = f (mib5 b) := by rw [hc, Option.bind_some]
    rw [← this]
    simp only [Option.bind_assoc]
  rw [e]
  congr 1
  unfold mibRest
  rw [loop_ext (fun z => mibL2 b _ _)]
  congr 1
  funext d
  rw [loop_congr (fun z : Int × List Bind => 1 ≤ z.1) (fun z hz => mibL6 b hz _) (fun z y hz e => mibL6_next b hz e) (show (1 : Int) ≤ 1 by omega)]
  congr 1
  funext d
  rw [loop_ext (fun z => mibFdb b _ _)]
theorem mib_same {b : Bridge} (h : BWf b) : spec_MibList b = impl_MibList b := by rw [mibS h, mibT h]

set_option linter.unusedVariables false
set_option linter.unusedSimpArgs false
theorem app_nat {α : Type} {xs ys : List α} (h : xs.length + ys.length ≤ 1000) : app xs ys = some (xs ++ ys) := by
  unfold app
  rw [if_pos (Nat.le_trans h (by decide))]
theorem addT {out : List Bind} {name : List Int} (n : Int) (h1 : out.length ≤ 900) (h2 : name.length ≤ 900) : ∃ t, spec_l17Add out name n = some t ∧ t.length = out.length + 1 := by
  unfold spec_l17Add spec_l17Name spec_l3Int
  rw [app_nat (by simp; omega)]
  simp only [Option.bind_some]
  rw [app_nat (by simp; omega)]
  exact ⟨_, rfl, by simp⟩
theorem add_step {out : List Bind} {name : List Int} (n : Int) (i : Int) (h1 : out.length ≤ 900) (h2 : name.length ≤ 900) : ∃ t, ((impl_number n).bind fun v => (impl_thing v name).bind fun t => (app out [t]).bind fun zs => some (Sum.inl (w64 (i + 1), zs) : (Int × List Bind) ⊕ List Bind)) = some (.inl (w64 (i + 1), t)) ∧ t.length = out.length + 1 := by
  obtain ⟨t, h, hl⟩ := addT n h1 h2
  exact ⟨t, by rw [add_same, h, Option.bind_some], hl⟩
theorem portT {b : Bridge} (h : BWf b) (c : Int) {k : Nat} (hk : k < b.2.2.1.length) (hq : b.2.2.1.length = b.2.2.2.2.2.1.length) : ∃ n, impl_portThing b c (k : Int) = some n := by
  obtain ⟨r, hr⟩ := roleT b.1 h.p (k : Int)
  unfold impl_portThing impl_bit
  rw [at_nat hk, at_nat (show k < b.2.2.2.2.2.1.length by omega), hr]
  simp only [Option.bind_some]
  cases (c == 1) <;> cases (c == 2) <;> cases (c == 3) <;> cases (b.2.2.1[k]).1 <;> exact ⟨_, rfl⟩
theorem inner_ports {b : Bridge} (h : BWf b) (hq : b.2.2.1.length = b.2.2.2.2.2.1.length) (h6 : b.2.2.1.length ≤ 6) (c : Int) (out : List Bind) (ho : out.length ≤ 500) : ∃ l, loop (fun z => impl_MibList_l4 b c z.1 z.2) (0, out) = some l ∧ l.length = out.length + b.2.2.1.length := by
  refine loop_inv (step := fun z : Int × List Bind => impl_MibList_l4 b c z.1 z.2) (fun k z => z.1 = (k : Int) ∧ z.2.length = out.length + k) b.2.2.1.length (fun l => l.length = out.length + b.2.2.1.length) (fun k z hk ⟨e1, e2⟩ => ?_) (fun z ⟨e1, e2⟩ => ?_) (x := (0, out)) ⟨rfl, rfl⟩
  · obtain ⟨i, l⟩ := z
    simp only at e1 e2
    subst e1
    left
    obtain ⟨n, hn⟩ := portT h c hk hq
    obtain ⟨t, ht, hl⟩ := add_step (out := l) (name := [2, c, w64 ((k : Int) + 1)]) n (k : Int) (by omega) (by simp)
    refine ⟨(w64 ((k : Int) + 1), t), ?_, w64_nat (by omega), by show t.length = _; omega⟩
    unfold impl_MibList_l4
    rw [dlt (by omega), cond_true, hn, Option.bind_some]
    exact ht
  · obtain ⟨i, l⟩ := z
    simp only at e1 e2
    subst e1
    refine ⟨l, ?_, e2⟩
    unfold impl_MibList_l4
    simp only [dnlt (show ¬ (b.2.2.1.length : Int) < (b.2.2.1.length : Int) by omega), cond_false]
theorem outer_ports {b : Bridge} (h : BWf b) (hq : b.2.2.1.length = b.2.2.2.2.2.1.length) (h6 : b.2.2.1.length ≤ 6) (out : List Bind) (ho : out.length ≤ 400) : ∃ l, loop (fun z => impl_MibList_l2 b z.1 z.2) (1, out) = some l ∧ l.length = out.length + 4 * b.2.2.1.length := by
  refine loop_inv (step := fun z : Int × List Bind => impl_MibList_l2 b z.1 z.2) (fun k z => z.1 = (k : Int) + 1 ∧ z.2.length = out.length + k * b.2.2.1.length) 4 (fun l => l.length = out.length + 4 * b.2.2.1.length) (fun k z hk ⟨e1, e2⟩ => ?_) (fun z ⟨e1, e2⟩ => ?_) (x := (1, out)) ⟨rfl, by simp⟩
  · obtain ⟨i, l⟩ := z
    simp only at e1 e2
    left
    have hkl : k * b.2.2.1.length ≤ 4 * 6 := Nat.mul_le_mul (by omega) h6
    obtain ⟨l2, h1, h2⟩ := inner_ports h hq h6 i l (by omega)
    refine ⟨(w64 (i + 1), l2), ?_, ?_, ?_⟩
    · show impl_MibList_l2 b i l = _
      unfold impl_MibList_l2
      rw [decide_eq_true (show i ≤ 4 by omega), cond_true, h1, Option.bind_some]
    · show w64 (i + 1) = _
      rw [w64_id (by omega) (by omega)]; omega
    · show l2.length = _
      rw [h2, e2, Nat.add_mul]; omega
  · obtain ⟨i, l⟩ := z
    simp only at e1 e2
    refine ⟨l, ?_, e2⟩
    show impl_MibList_l2 b i l = _
    unfold impl_MibList_l2
    rw [decide_eq_false (show ¬ i ≤ 4 by omega)]; rfl
theorem inner_rows {b : Bridge} {c : Int} (hc : 1 ≤ c ∧ c ≤ 3) (h6 : b.2.2.2.2.1.length ≤ 6) (out : List Bind) (ho : out.length ≤ 500) : ∃ l, loop (fun z => impl_MibList_l8 b c z.1 z.2) (0, out) = some l ∧ l.length = out.length + b.2.2.2.2.1.length := by
  refine loop_inv (step := fun z : Int × List Bind => impl_MibList_l8 b c z.1 z.2) (fun k z => z.1 = (k : Int) ∧ z.2.length = out.length + k) b.2.2.2.2.1.length (fun l => l.length = out.length + b.2.2.2.2.1.length) (fun k z hk ⟨e1, e2⟩ => ?_) (fun z ⟨e1, e2⟩ => ?_) (x := (0, out)) ⟨rfl, rfl⟩
  · obtain ⟨i, l⟩ := z
    simp only at e1 e2
    subst e1
    left
    have hr := rowS (r := b.2.2.2.2.1[k]) hc
    obtain ⟨n, hn⟩ : ∃ n, spec_l17Row b.2.2.2.2.1[k] c = some n := by
      unfold spec_l17Row; cases (c == 1) <;> cases (c == 2) <;> exact ⟨_, rfl⟩
    rw [hn] at hr
    obtain ⟨t, ht, hl⟩ := add_step (out := l) (name := [3, c, b.2.2.2.2.1[k].1]) n (k : Int) (by omega) (by simp)
    refine ⟨(w64 ((k : Int) + 1), t), ?_, w64_nat (by omega), by show t.length = _; omega⟩
    show impl_MibList_l8 b c (k : Int) l = _
    unfold impl_MibList_l8
    rw [dlt (by omega), cond_true, at_nat hk, Option.bind_some, ← ht]
    rw [Option.bind_eq_some_iff] at hr
    obtain ⟨j, hj, hr⟩ := hr
    rw [hj, Option.bind_some]
    rw [Option.bind_eq_some_iff] at hr
    obtain ⟨x, hx, hr⟩ := hr
    cases hr
    rw [hx, Option.bind_some]
  · obtain ⟨i, l⟩ := z
    simp only at e1 e2
    subst e1
    refine ⟨l, ?_, e2⟩
    show impl_MibList_l8 b c _ l = _
    unfold impl_MibList_l8
    simp only [dnlt (show ¬ (b.2.2.2.2.1.length : Int) < (b.2.2.2.2.1.length : Int) by omega), cond_false]
theorem outer_rows {b : Bridge} (h6 : b.2.2.2.2.1.length ≤ 6) (out : List Bind) (ho : out.length ≤ 400) : ∃ l, loop (fun z => impl_MibList_l6 b z.1 z.2) (1, out) = some l ∧ l.length = out.length + 3 * b.2.2.2.2.1.length := by
  refine loop_inv (step := fun z : Int × List Bind => impl_MibList_l6 b z.1 z.2) (fun k z => z.1 = (k : Int) + 1 ∧ z.2.length = out.length + k * b.2.2.2.2.1.length) 3 (fun l => l.length = out.length + 3 * b.2.2.2.2.1.length) (fun k z hk ⟨e1, e2⟩ => ?_) (fun z ⟨e1, e2⟩ => ?_) (x := (1, out)) ⟨rfl, by simp⟩
  · obtain ⟨i, l⟩ := z
    simp only at e1 e2
    left
    have hkl : k * b.2.2.2.2.1.length ≤ 3 * 6 := Nat.mul_le_mul (by omega) h6
    obtain ⟨l2, h1, h2⟩ := inner_rows (b := b) (c := i) ⟨by omega, by omega⟩ h6 l (by omega)
    refine ⟨(w64 (i + 1), l2), ?_, ?_, ?_⟩
    · show impl_MibList_l6 b i l = _
      unfold impl_MibList_l6
      rw [decide_eq_true (show i ≤ 3 by omega), cond_true, h1, Option.bind_some]
    · show w64 (i + 1) = _
      rw [w64_id (by omega) (by omega)]; omega
    · show l2.length = _
      rw [h2, e2, Nat.add_mul]; omega
  · obtain ⟨i, l⟩ := z
    simp only at e1 e2
    refine ⟨l, ?_, e2⟩
    show impl_MibList_l6 b i l = _
    unfold impl_MibList_l6
    rw [decide_eq_false (show ¬ i ≤ 3 by omega)]; rfl
theorem fdb_rows {b : Bridge} (h12 : b.2.2.2.1.length ≤ 12) (out : List Bind) (ho : out.length ≤ 500) : ∃ l, loop (fun z => impl_MibList_l10 b z.1 z.2) (0, out) = some l ∧ l.length = out.length + b.2.2.2.1.length := by
  refine loop_inv (step := fun z : Int × List Bind => impl_MibList_l10 b z.1 z.2) (fun k z => z.1 = (k : Int) ∧ z.2.length = out.length + k) b.2.2.2.1.length (fun l => l.length = out.length + b.2.2.2.1.length) (fun k z hk ⟨e1, e2⟩ => ?_) (fun z ⟨e1, e2⟩ => ?_) (x := (0, out)) ⟨rfl, rfl⟩
  · obtain ⟨i, l⟩ := z
    simp only at e1 e2
    subst e1
    left
    obtain ⟨t, ht, hl⟩ := add_step (out := l) (name := [4, 1, b.2.2.2.1[k].1, b.2.2.2.1[k].2.1]) (w64 (b.2.2.2.1[k].2.2.1 + 1)) (k : Int) (by omega) (by simp)
    refine ⟨(w64 ((k : Int) + 1), t), ?_, w64_nat (by omega), by show t.length = _; omega⟩
    show impl_MibList_l10 b (k : Int) l = _
    unfold impl_MibList_l10
    rw [dlt (by omega), cond_true, at_nat hk, Option.bind_some]
    exact ht
  · obtain ⟨i, l⟩ := z
    simp only at e1 e2
    subst e1
    refine ⟨l, ?_, e2⟩
    show impl_MibList_l10 b _ l = _
    unfold impl_MibList_l10
    simp only [dnlt (show ¬ (b.2.2.2.1.length : Int) < (b.2.2.2.1.length : Int) by omega), cond_false]
/-- A bridge's things are told. -/
theorem mib_total {b : Bridge} (h : BWf b) : ∃ l, impl_MibList b = some l ∧ l.length ≤ 100 := by
  rw [mibT h]
  cases hb : pBridge b with
  | false => exact ⟨[], rfl, by simp⟩
  | true =>
    unfold pBridge at hb
    simp only [Bool.and_eq_true] at hb
    obtain ⟨_, _, _, h1, h2, h3, _⟩ := hb
    unfold pIn at h1
    simp only [Bool.and_eq_true, decide_eq_true_eq] at h1
    unfold pFdb at h2
    simp only [Bool.and_eq_true, decide_eq_true_eq] at h2
    unfold pVtab at h3
    simp only [Bool.and_eq_true, Bool.not_eq_true', Bool.or_eq_false_iff, decide_eq_false_iff_not, bne_eq_false_iff_eq] at h3
    obtain ⟨⟨_, h4, h5⟩, _⟩ := h3
    obtain ⟨l1, e1, k1⟩ := outer_ports h (by omega) (by omega) (mib5 b) (by show 5 ≤ 400; omega)
    have k0 : (mib5 b).length = 5 := rfl
    obtain ⟨l2, e2, k2⟩ := outer_rows (b := b) (by omega) l1 (by omega)
    obtain ⟨l3, e3, k3⟩ := fdb_rows (b := b) (by omega) l2 (by omega)
    refine ⟨l3, ?_, by omega⟩
    show mibRest b (mib5 b) = _
    unfold mibRest
    rw [e1, Option.bind_some, e2, Option.bind_some, e3, Option.bind_some]

end Go.V.W
