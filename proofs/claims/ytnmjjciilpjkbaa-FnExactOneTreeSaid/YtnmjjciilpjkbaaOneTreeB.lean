/- The law FnExactOneTree: part of the proof that for every input it returns true. No condition. -/
import Derived.KernelRfl
import Derived.Test.YtnmjjciilpjkbaaOneTree
import Derived.Test.YtnmjjciilpjkbaaV3
namespace Go.V.W
set_option linter.unusedVariables false
set_option linter.unusedSimpArgs false
set_option linter.unusedVariables false
abbrev M : Nat := 1048576
abbrev In (left : Int) : Prop := 0 ≤ left ∧ left ≤ 1048576
theorem In.next {left r : Int} (h : In left) (h1 : 0 ≤ r) (h2 : r ≤ left) : In r := ⟨h1, by have := h.2; omega⟩
theorem le32 {n : Nat} (h : n ≤ M) : n ≤ 4294967295 := Nat.le_trans h (by decide)
/-! ### room -/
theorem szIntS {a : List Int} {left : Int} (hl : In left) (h : a.length ≤ maxLen) : Room left (laws_szIntS a left) (a.length ≤ M) := room_slice hl h
theorem szPtS {a : List Pt} {left : Int} (hl : In left) (h : a.length ≤ maxLen) : Room left (laws_szPtS a left) (a.length ≤ M) := room_slice hl h
theorem szFentS {a : List Fent} {left : Int} (hl : In left) (h : a.length ≤ maxLen) : Room left (laws_szFentS a left) (a.length ≤ M) := room_slice hl h
theorem szVrowS {a : List Vrow} {left : Int} (hl : In left) (h : a.length ≤ maxLen) : Room left (laws_szVrowS a left) (a.length ≤ M) := room_slice hl h
theorem szVtab {a : Vtab} {left : Int} (hl : In left) (h : a.1.length ≤ maxLen ∧ a.2.length ≤ maxLen) : Room left (laws_szVtab a left) (a.1.length ≤ M ∧ a.2.length ≤ M ∧ True) :=
  room_bind (szVrowS hl h.1) fun r h1 h2 => room_bind (szIntS (hl.next h1 h2) h.2) fun r h1 h2 => room_some h1
/-- The slices of a bridge. -/
def BLe (n : Nat) (b : Bridge) : Prop := b.2.1.length ≤ n ∧ b.2.2.1.length ≤ n ∧ b.2.2.2.1.length ≤ n ∧ b.2.2.2.2.1.length ≤ n ∧ b.2.2.2.2.2.1.length ≤ n
theorem szBridge {b : Bridge} {left : Int} (hl : In left) (h : BLe maxLen b) : Room left (laws_szBridge b left) (BLe M b) := by
  obtain ⟨h1, h2, h3, h4, h5⟩ := h
  refine room_imp (room_let hl h1 fun r k1 k2 => room_bind (szPtS (hl.next k1 k2) h2) fun r' k3 k4 => room_bind (szFentS ((hl.next k1 k2).next k3 k4) h3) fun r'' k5 k6 => room_bind (szVtab (a := (b.2.2.2.2.1, b.2.2.2.2.2.1)) (((hl.next k1 k2).next k3 k4).next k5 k6) ⟨h4, h5⟩) fun r3 k7 k8 => room_some k7) ?_
  rintro ⟨a1, a2, a3, ⟨a4, a5, _⟩, _⟩
  exact ⟨a1, a2, a3, a4, a5⟩
/-! ### copies -/
theorem toIntS {a : List Int} (h : a.length ≤ M) : laws_toIntS a = some a := toS_of (le32 h) (to_loop' (le32 h) 0)
theorem toPtS {a : List Pt} (h : a.length ≤ M) : laws_toPtS a = some a := toS_of (le32 h) (to_loop (f := laws_toPt) (fun _ _ => rfl) (le32 h) _)
theorem toFentS {a : List Fent} (h : a.length ≤ M) : laws_toFentS a = some a := toS_of (le32 h) (to_loop (f := laws_toFent) (fun _ _ => rfl) (le32 h) _)
theorem toVrowS {a : List Vrow} (h : a.length ≤ M) : laws_toVrowS a = some a := toS_of (le32 h) (to_loop (f := laws_toVrow) (fun _ _ => rfl) (le32 h) _)
theorem toVtab {a : Vtab} (h : a.1.length ≤ M ∧ a.2.length ≤ M) : laws_toVtab a = some a := by
  unfold laws_toVtab
  rw [toVrowS h.1, Option.bind_some, toIntS h.2, Option.bind_some]
theorem toBridge {b : Bridge} (h : BLe M b) : laws_toBridge b = some b := by
  obtain ⟨h1, h2, h3, h4, h5⟩ := h
  unfold laws_toBridge
  rw [toPtS h2, Option.bind_some, toFentS h3, Option.bind_some, toVtab ⟨h4, h5⟩, Option.bind_some]
/-! ### the same -/
theorem eqVec (v : Vec) : laws_eqVec v v = some true := by unfold laws_eqVec; simp
theorem eqPt (v : Pt) : laws_eqPt v v = some true := by unfold laws_eqPt; simp [eqVec]
theorem eqFent (v : Fent) : laws_eqFent v v = some true := by unfold laws_eqFent; simp
theorem eqVrow (v : Vrow) : laws_eqVrow v v = some true := by unfold laws_eqVrow; simp
theorem eqIntS {a : List Int} (h : a.length ≤ M) : laws_eqIntS a a = some true := eqS_of (eq_loop' (le32 h))
theorem eqPtS {a : List Pt} (h : a.length ≤ M) : laws_eqPtS a a = some true := eqS_of (eq_loop (g := laws_eqPt) (fun x _ => eqPt x) (le32 h))
theorem eqFentS {a : List Fent} (h : a.length ≤ M) : laws_eqFentS a a = some true := eqS_of (eq_loop (g := laws_eqFent) (fun x _ => eqFent x) (le32 h))
theorem eqVrowS {a : List Vrow} (h : a.length ≤ M) : laws_eqVrowS a a = some true := eqS_of (eq_loop (g := laws_eqVrow) (fun x _ => eqVrow x) (le32 h))
theorem eqVtab {a : Vtab} (h : a.1.length ≤ M ∧ a.2.length ≤ M) : laws_eqVtab a a = some true := by
  unfold laws_eqVtab; simp [eqVrowS h.1, eqIntS h.2]
theorem eqBridge {b : Bridge} (h : BLe M b) : laws_eqBridge b b = some true := by
  obtain ⟨h1, h2, h3, h4, h5⟩ := h
  unfold laws_eqBridge
  simp [eqPtS h2, eqFentS h3, eqVtab (a := (b.2.2.2.2.1, b.2.2.2.2.2.1)) ⟨h4, h5⟩]
set_option linter.unusedVariables false
set_option linter.unusedSimpArgs false
/-- The same loop. -/
theorem loop_congr {α β : Type} {f g : α → Option (α ⊕ β)} (Inv : α → Prop) (h : ∀ x, Inv x → f x = g x) (hi : ∀ x y, Inv x → f x = some (.inl y) → Inv y) {x : α} (h0 : Inv x) : loop f x = loop g x := by
  have key : ∀ k x, Inv x → iter f k x = iter g k x := by
    intro k
    induction k with
    | zero => intro x _; rfl
    | succ k ih =>
      intro x hx
      rw [iter_succ, iter_succ, ← h x hx]
      cases hf : f x with
      | none => rfl
      | some v => cases v with
        | inl y => exact ih y (hi x y hx hf)
        | inr b => rfl
  have hex : (∃ k, (iter f k x).isSome) ↔ ∃ k, (iter g k x).isSome := by
    constructor <;> rintro ⟨k, hk⟩ <;> exact ⟨k, by first | rwa [← key k x h0] | rwa [key k x h0]⟩
  by_cases hc : ∃ k, (iter f k x).isSome
  · obtain ⟨k, hk⟩ := hc
    cases hv : iter f k x with
    | none => rw [hv] at hk; cases hk
    | some b => rw [loop_of hv, loop_of ((key k x h0) ▸ hv)]
  · have hc' : ¬ ∃ k, (iter g k x).isSome := fun h => hc (hex.2 h)
    unfold loop
    rw [dif_neg hc, dif_neg hc']
theorem loop_ext {α β : Type} {f g : α → Option (α ⊕ β)} (h : ∀ x, f x = g x) (x : α) : loop f x = loop g x := by rw [funext h]
def pIn (x a b : Int) : Bool := decide (x ≥ a) && decide (x ≤ b)
theorem inT (x a b : Int) : impl_in x a b = some (pIn x a b) := by
  unfold impl_in pIn
  cases decide (x ≥ a) <;> rfl
theorem inS (x a b : Int) : spec_l1In x a b = some (pIn x a b) := inT x a b
def pVec (v : Vec) : Bool := pIn v.1 1 99 && (pIn v.2.1 0 100000 && (pIn v.2.2.1 0 10 && (pIn v.2.2.2.1 1 99 && pIn v.2.2.2.2 0 7)))
theorem vecT (v : Vec) : impl_VecOk v = some (pVec v) := by
  unfold impl_VecOk pVec
  simp only [inT, Option.bind_some]
  cases pIn v.1 1 99 <;> cases pIn v.2.1 0 100000 <;> cases pIn v.2.2.1 0 10 <;> cases pIn v.2.2.2.1 1 99 <;> rfl
theorem vecS : spec_VecOk = impl_VecOk := rfl
def pPt (p : Pt) : Bool := pIn p.2.1 1 1000 && (!(p.2.2.1 && !p.1) && (cond p.2.2.1 (pVec p.2.2.2) (p.2.2.2.1 == 0 && (p.2.2.2.2.1 == 0 && (p.2.2.2.2.2.1 == 0 && (p.2.2.2.2.2.2.1 == 0 && (p.2.2.2.2.2.2.2 == 0)))))))
/-! ### a loop that asks of each -/
theorem all_loop {n : Nat} {c : Int → Option Bool} {b : Nat → Bool} (hn : n < 9223372036854775807) (hc : ∀ k, k < n → c (k : Int) = some (b k)) :
    loop (fun i : Int => cond (decide (i < (n : Int))) ((c i).bind fun t => cond t (some (.inr (.inr false))) (some (.inl (w64 (i + 1))))) (some (.inr (.inl ())))) 0 = some (cond ((List.range n).any b) (Sum.inr false) (Sum.inl ()) : Unit ⊕ Bool) := by
  obtain ⟨v, h1, h2⟩ := loop_inv (β := Unit ⊕ Bool) (step := fun i : Int => cond (decide (i < (n : Int))) ((c i).bind fun t => cond t (some (.inr (.inr false))) (some (.inl (w64 (i + 1))))) (some (.inr (.inl ()))))
    (fun k i => i = (k : Int) ∧ (List.range k).any b = false) n (fun v => v = cond ((List.range n).any b) (Sum.inr false) (Sum.inl ()))
    (fun k i hk ⟨e, ha⟩ => by
      subst e
      have hs : (cond (decide ((k : Int) < (n : Int))) ((c (k : Int)).bind fun t => cond t (some (.inr (.inr false))) (some (.inl (w64 ((k : Int) + 1))))) (some (.inr (.inl ()))) : Option (Int ⊕ (Unit ⊕ Bool))) = cond (b k) (some (.inr (.inr false))) (some (.inl ((k + 1 : Nat) : Int))) := by
        rw [dlt (by omega), cond_true, hc k hk, Option.bind_some, w64_nat (by omega)]
      cases hb : b k with
      | true =>
        refine .inr ⟨.inr false, by rw [hs, hb]; rfl, ?_⟩
        have : (List.range n).any b = true := List.any_eq_true.2 ⟨k, List.mem_range.2 hk, hb⟩
        rw [this]; rfl
      | false =>
        refine .inl ⟨_, by rw [hs, hb]; rfl, rfl, ?_⟩
        rw [List.range_succ, List.any_append, ha]; simp [hb])
    (fun i ⟨e, ha⟩ => by
      subst e
      exact ⟨.inl (), by rw [dnlt (by omega), cond_false], by rw [ha]; rfl⟩) (x := 0) ⟨rfl, rfl⟩
  rw [h1, h2]
/-! ### the table of addresses -/
def pFent (e : Fent) : Bool := pIn e.1 1 99 && (pIn e.2.1 1 9999 && (pIn e.2.2.1 0 7 && (pIn e.2.2.2.1 0 4 && (!e.2.2.2.2 || e.2.2.2.1 == 0))))
def pBehind (e : Fent) (tag mac : Int) : Bool := decide (e.1 > tag) || (e.1 == tag && decide (e.2.1 > mac))
def bFent (l : List Fent) (k : Nat) : Bool := match l[k]? with
  | some e => !(pFent e) || (decide (0 < k) && (match l[k - 1]? with | some p => !(pBehind e p.1 p.2.1) | none => false))
  | none => false
def pFdb (l : List Fent) : Bool := !((List.range l.length).any (bFent l)) && decide ((l.length : Int) ≤ 12)
theorem prev_at {α : Type} {l : List α} {k : Nat} (h : k < l.length) (hk : 0 < k) (hn : l.length < 9223372036854775807) : at? l (w64 ((k : Int) - 1)) = some l[k - 1] := by
  rw [w64_id (by omega) (by omega), show (k : Int) - 1 = ((k - 1 : Nat) : Int) by omega, at_nat (by omega)]
set_option linter.unusedVariables false
set_option linter.unusedSimpArgs false
def pTop (i : Int) : Int := (2 : Int) ^ i.toNat - 1
theorem range6 {i : Int} (h : pIn i 1 6 = true) : i = 1 ∨ i = 2 ∨ i = 3 ∨ i = 4 ∨ i = 5 ∨ i = 6 := by
  unfold pIn at h
  simp only [Bool.and_eq_true, decide_eq_true_eq] at h
  omega
theorem shlS {i : Int} (h : pIn i 1 6 = true) : ∃ t, shl .i64 1 (IntKind.u64.wrap i) = some t ∧ w64 (t - 1) = pTop i := by
  rcases range6 h with rfl | rfl | rfl | rfl | rfl | rfl <;> exact ⟨_, rfl, rfl⟩
theorem topLe {i : Int} (h : pIn i 1 6 = true) : 1 ≤ pTop i ∧ pTop i ≤ 63 := by
  rcases range6 h with rfl | rfl | rfl | rfl | rfl | rfl <;> decide
/-! #### bits -/
theorem wrap_toNat (x : BitVec 64) : IntKind.i64.wrap (x.toNat : Int) = x.toInt := by
  have hx := x.isLt
  rw [BitVec.toInt_eq_toNat_cond]
  show (let m := (x.toNat : Int) % 18446744073709551616; if (true && decide (m ≥ 9223372036854775808)) = true then m - 18446744073709551616 else m) = _
  simp only [Bool.true_and, decide_eq_true_eq]
  have h1 : (x.toNat : Int) % 18446744073709551616 = (x.toNat : Int) := by omega
  rw [h1]
  split <;> split <;> omega
theorem ofInt_toInt {b : Int} (h1 : -9223372036854775808 ≤ b) (h2 : b ≤ 9223372036854775807) : (BitVec.ofInt 64 b).toInt = b := by
  rw [BitVec.toInt_ofInt]
  unfold Int.bmod
  simp only
  split <;> omega
theorem bandT (a b : Int) : band .i64 a b = (BitVec.ofInt 64 a &&& BitVec.ofInt 64 b).toInt := wrap_toNat _
theorem bclrT (a b : Int) : bclr .i64 a b = (BitVec.ofInt 64 a &&& ~~~ BitVec.ofInt 64 b).toInt := wrap_toNat _
theorem and_iff (x y : BitVec 64) : x &&& y = x ↔ x &&& ~~~ y = 0 := by
  constructor
  · intro h
    apply BitVec.eq_of_getLsbD_eq
    intro i hi
    have := congrArg (fun z => z.getLsbD i) h
    simp only [BitVec.getLsbD_and] at this
    simp only [BitVec.getLsbD_and, BitVec.getLsbD_not, BitVec.getLsbD_zero, hi, decide_true, Bool.true_and]
    cases hx : x.getLsbD i <;> cases hy : y.getLsbD i <;> simp_all
  · intro h
    apply BitVec.eq_of_getLsbD_eq
    intro i hi
    have := congrArg (fun z => z.getLsbD i) h
    simp only [BitVec.getLsbD_and, BitVec.getLsbD_not, BitVec.getLsbD_zero, hi, decide_true, Bool.true_and] at this
    simp only [BitVec.getLsbD_and]
    cases hx : x.getLsbD i <;> cases hy : y.getLsbD i <;> simp_all
/-- What is held back is among what is meant, said in two ways. -/
theorem bits_same {b m : Int} (h1 : -9223372036854775808 ≤ b) (h2 : b ≤ 9223372036854775807) : (band .i64 b m != b) = (bclr .i64 b m != 0) := by
  rw [bandT, bclrT]
  have e : ((BitVec.ofInt 64 b &&& BitVec.ofInt 64 m).toInt = b) ↔ ((BitVec.ofInt 64 b &&& ~~~ BitVec.ofInt 64 m).toInt = 0) := by
    constructor
    · intro h
      have : BitVec.ofInt 64 b &&& BitVec.ofInt 64 m = BitVec.ofInt 64 b := BitVec.eq_of_toInt_eq (by rw [h, ofInt_toInt h1 h2])
      rw [(and_iff _ _).1 this]; rfl
    · intro h
      have : BitVec.ofInt 64 b &&& ~~~ BitVec.ofInt 64 m = 0 := BitVec.eq_of_toInt_eq (by rw [h]; rfl)
      rw [(and_iff _ _).2 this, ofInt_toInt h1 h2]
  by_cases h : (BitVec.ofInt 64 b &&& BitVec.ofInt 64 m).toInt = b
  · have h' := e.1 h
    simp [h, h']
  · have h' : ¬ (BitVec.ofInt 64 b &&& ~~~ BitVec.ofInt 64 m).toInt = 0 := fun k => h (e.2 k)
    rw [bne_iff_ne.2 h, bne_iff_ne.2 h']
theorem bits_in {b m t : Int} (h1 : -9223372036854775808 ≤ b) (h2 : b ≤ 9223372036854775807) (hm : pIn m 0 t = true) (ht : t ≤ 63) (h : (band .i64 b m != b) = false) : pIn b 0 t = true := by
  unfold pIn at hm ⊢
  simp only [Bool.and_eq_true, decide_eq_true_eq] at hm ⊢
  have h : band .i64 b m = b := by simpa using h
  rw [bandT] at h
  have e : BitVec.ofInt 64 b &&& BitVec.ofInt 64 m = BitVec.ofInt 64 b := BitVec.eq_of_toInt_eq (by rw [h, ofInt_toInt h1 h2])
  have hM : (BitVec.ofInt 64 m).toNat = m.toNat := by
    rw [BitVec.toNat_ofInt]
    omega
  have hle : (BitVec.ofInt 64 b).toNat ≤ m.toNat := by
    rw [← e, BitVec.toNat_and, hM]; exact Nat.and_le_right
  have hb : (BitVec.ofInt 64 b).toInt = ((BitVec.ofInt 64 b).toNat : Int) := by
    rw [BitVec.toInt_eq_toNat_cond]; split <;> omega
  rw [ofInt_toInt h1 h2] at hb
  omega
def bRow (v : Vtab) (i : Int) (k : Nat) : Bool := match v.1[k]? with
  | some r => !(pIn r.1 1 99) || ((decide (0 < k) && (match v.1[k - 1]? with | some p => decide (p.1 ≥ r.1) | none => false)) || (!(pIn r.2.1 0 (pTop i)) || (bclr .i64 r.2.2 r.2.1 != 0)))
  | none => false
/-! ### a bridge -/
def bPt (l : List Pt) (k : Nat) : Bool := match l[k]? with | some p => !(pPt p) | none => false
def pCounts (b : Bridge) : Bool := pIn b.2.2.2.2.2.2.1 0 1000000 && (pIn b.2.2.2.2.2.2.2.1 0 1000000 && (pIn b.2.2.2.2.2.2.2.2.1 0 1000000 && (pIn b.2.2.2.2.2.2.2.2.2.1 0 1000000 && pIn b.2.2.2.2.2.2.2.2.2.2 0 1000000)))
/-- A bridge whose slices are no longer than slices are, and whose numbers are. -/
structure BWf (b : Bridge) : Prop where
  p : b.2.2.1.length < 9223372036854775807
  f : b.2.2.2.1.length < 9223372036854775807
  v : b.2.2.2.2.1.length < 9223372036854775807
  q : b.2.2.2.2.2.1.length < 9223372036854775807
  r : ∀ r ∈ b.2.2.2.2.1, -9223372036854775808 ≤ r.2.2 ∧ r.2.2 ≤ 9223372036854775807
set_option linter.unusedVariables false
set_option linter.unusedSimpArgs false
/-! ### roles -/
theorem lessS : spec_LessVec = impl_LessVec := rfl
theorem lessT (a b : Vec) : ∃ r, impl_LessVec a b = some r := by
  unfold impl_LessVec
  cases (a.1 != b.1) <;> cases (a.2.1 != b.2.1) <;> cases (a.2.2.2.1 != b.2.2.2.1) <;> exact ⟨_, rfl⟩
theorem stepS : spec_StepVec = impl_StepVec := rfl
theorem stepT (v : Vec) (c : Int) : ∃ r, impl_StepVec v c = some r := by
  unfold impl_StepVec
  simp only [vecT, inT, Option.bind_some]
  cases pVec v <;> cases pIn c 1 1000 <;> first | exact ⟨_, rfl⟩ | skip
  generalize pVec (v.1, w64 (v.2.1 + c), w64 (v.2.2.1 + 1), v.2.2.2.1, v.2.2.2.2) = q
  cases q <;> exact ⟨_, rfl⟩
theorem bestL (p0 : Int) (l : List Pt) (t8 t9 b0 b1 b2 b3 b4 c0 c1 c2 c3 c4 : Int) : spec_BestVec_l0 p0 l t8 t9 b0 b1 b2 b3 b4 c0 c1 c2 c3 c4 = impl_BestVec_l0 p0 l t8 t9 b0 b1 b2 b3 b4 c0 c1 c2 c3 c4 := by
  unfold spec_BestVec_l0 impl_BestVec_l0
  rw [stepS, lessS]
  cases h : at? l t9 with
  | none => rfl
  | some x => simp only [Option.bind_some]
theorem bestS : spec_BestVec = impl_BestVec := by
  funext p0 l
  unfold spec_BestVec impl_BestVec
  rw [loop_ext (fun z => bestL p0 l _ _ _ _ _ _ _ _ _ _ _ _)]
theorem bestT (p0 : Int) {l : List Pt} (hn : l.length < 9223372036854775807) : ∃ r, impl_BestVec p0 l = some r := by
  unfold impl_BestVec
  obtain ⟨b, h1, _⟩ := loop_inv (step := fun z : Int × Int × Int × Int × Int × Int × Int × Int × Int × Int × Int × Int => impl_BestVec_l0 p0 l z.1 z.2.1 z.2.2.1 z.2.2.2.1 z.2.2.2.2.1 z.2.2.2.2.2.1 z.2.2.2.2.2.2.1 z.2.2.2.2.2.2.2.1 z.2.2.2.2.2.2.2.2.1 z.2.2.2.2.2.2.2.2.2.1 z.2.2.2.2.2.2.2.2.2.2.1 z.2.2.2.2.2.2.2.2.2.2.2)
    (fun k z => z.2.1 = (k : Int)) l.length (fun _ => True)
    (fun k z hk h => by
      left
      obtain ⟨t7, t18, b0, b1, b2, b3, b4, c0, c1, c2, c3, c4⟩ := z
      obtain rfl : t18 = (k : Int) := h
      unfold impl_BestVec_l0
      simp only [dlt (show (k : Int) < (l.length : Int) by omega), cond_true, at_nat hk, Option.bind_some]
      rw [show w64 ((k : Int) + 1) = ((k + 1 : Nat) : Int) from w64_nat (by omega)]
      generalize l[k] = x
      have e : (cond (!x.1) (some true) (some (!x.2.2.1)) : Option Bool) = some (cond (!x.1) true (!x.2.2.1)) := by cases x.1 <;> rfl
      rw [e, Option.bind_some]
      cases (cond (!x.1) true (!x.2.2.1)) with
      | true => exact ⟨_, rfl, rfl⟩
      | false =>
        obtain ⟨r, hr⟩ := stepT x.2.2.2 x.2.1
        obtain ⟨q, hq⟩ := lessT r.1 (c0, c1, c2, c3, c4)
        rw [cond_false, hr, Option.bind_some, hq]
        cases r.2 <;> cases decide (r.1.1 < p0) <;> cases decide (t7 < 0) <;> cases q <;> exact ⟨_, rfl, rfl⟩)
    (fun z h => by
      obtain ⟨t7, t18, b0, b1, b2, b3, b4, c0, c1, c2, c3, c4⟩ := z
      obtain rfl : t18 = (l.length : Int) := h
      unfold impl_BestVec_l0
      simp only [dnlt (show ¬ (l.length : Int) < (l.length : Int) by omega), cond_false]
      exact ⟨_, rfl, trivial⟩) (x := ((-1), 0, p0, 0, 0, p0, 0, 0, 0, 0, 0, 0)) rfl
  rw [h1, Option.bind_some]
  exact ⟨_, rfl⟩
theorem sayS : spec_SayVec = impl_SayVec := by
  funext id l p
  unfold spec_SayVec impl_SayVec
  rw [bestS]
theorem roleS : spec_RoleOf = impl_RoleOf := by
  funext id l p
  unfold spec_RoleOf impl_RoleOf
  rw [bestS, sayS, lessS]
  rfl
theorem roleT (id : Int) {l : List Pt} (hn : l.length < 9223372036854775807) (p : Int) : ∃ r, impl_RoleOf id l p = some r := by
  obtain ⟨v, hv⟩ := bestT id hn
  unfold impl_RoleOf impl_SayVec
  simp only [inT, Option.bind_some, hv]
  rw [show w64 ((l.length : Int) - 1) = (l.length : Int) - 1 from w64_id (by omega) (by omega)]
  cases hp : pIn p 0 ((l.length : Int) - 1) with
  | false => exact ⟨_, rfl⟩
  | true =>
    unfold pIn at hp
    simp only [Bool.and_eq_true, decide_eq_true_eq] at hp
    obtain ⟨k, rfl⟩ : ∃ k : Nat, p = (k : Int) := ⟨p.toNat, by omega⟩
    simp only [at_nat (show k < l.length by omega), Option.bind_some]
    generalize l[k]'(by omega) = x
    obtain ⟨q, hq⟩ := lessT (v.1.1, v.1.2.1, v.1.2.2.1, v.1.2.2.2.1, (k : Int)) x.2.2.2
    rw [hq]
    cases x.1 <;> cases (v.2 == (k : Int)) <;> cases x.2.2.1 <;> cases q <;> exact ⟨_, rfl⟩
set_option linter.unusedVariables false
set_option linter.unusedSimpArgs false
theorem app_nat {α : Type} {xs ys : List α} (h : xs.length + ys.length ≤ 1000) : app xs ys = some (xs ++ ys) := by
  unfold app
  rw [if_pos (Nat.le_trans h (by decide))]
set_option linter.unusedVariables false
set_option linter.unusedSimpArgs false
/-! ### nets: room, copies, the same -/
def BsLe (n : Nat) (l : List Bridge) : Prop := l.length ≤ n ∧ ∀ x ∈ l, BLe n x
theorem szBridgeS {l : List Bridge} {left : Int} (hl : In left) (h : BsLe maxLen l) : Room left (laws_szBridgeS l left) (BsLe M l) := by
  have hn : l.length ≤ 9223372036854775807 := h.1
  show Room left (let l1 := w64 (left - (l.length : Int)); cond (decide (l1 < 0)) (some (-1)) ((loop (fun z => laws_szBridgeS_l0 l z.1 z.2) (l1, 0)).bind (Sum.elim (fun d => some d) (fun r => some r)))) _
  by_cases hle : l.length ≤ M
  · exact room_imp (room_let hl h.1 fun r k1 k2 => room_loop (f := laws_szBridge) (Q := BLe M) (fun x hx l' h1 h2 => szBridge ⟨h1, h2⟩ (h.2 x hx)) (le32 hle) (hl.next k1 k2)) fun ⟨a, b⟩ => ⟨a, b⟩
  · refine ⟨-1, ?_, .inl rfl⟩
    show cond (decide (w64 (left - (l.length : Int)) < 0)) _ _ = _
    have : M < l.length := by omega
    have hM : (1048576 : Int) < (l.length : Int) := by have : 1048576 < l.length := this; omega
    have := hl.2
    rw [w64_id (by omega) (by omega), dlt (by omega), cond_true]
theorem szLinkS {a : List Link} {left : Int} (hl : In left) (h : a.length ≤ maxLen) : Room left (laws_szLinkS a left) (a.length ≤ M) := room_slice hl h
theorem szSayS {a : List Say} {left : Int} (hl : In left) (h : a.length ≤ maxLen) : Room left (laws_szSayS a left) (a.length ≤ M) := room_slice hl h
def NLe (m : Nat) (n : Net) : Prop := BsLe m n.1 ∧ n.2.1.length ≤ m ∧ n.2.2.length ≤ m
theorem szNet {n : Net} {left : Int} (hl : In left) (h : NLe maxLen n) : Room left (laws_szNet n left) (NLe M n) :=
  room_imp (room_bind (szBridgeS hl h.1) fun r k1 k2 => room_bind (szLinkS (hl.next k1 k2) h.2.1) fun r' k3 k4 => room_bind (szSayS ((hl.next k1 k2).next k3 k4) h.2.2) fun r'' k5 k6 => room_some k5) fun ⟨a, b, c, _⟩ => ⟨a, b, c⟩
theorem toBridgeS {l : List Bridge} (h : BsLe M l) : laws_toBridgeS l = some l := toS_of (le32 h.1) (to_loop (f := laws_toBridge) (fun x hx => toBridge (h.2 x hx)) (le32 h.1) _)
theorem toLinkS {a : List Link} (h : a.length ≤ M) : laws_toLinkS a = some a := toS_of (le32 h) (to_loop (f := laws_toLink) (fun _ _ => rfl) (le32 h) _)
theorem toSayS {a : List Say} (h : a.length ≤ M) : laws_toSayS a = some a := toS_of (le32 h) (to_loop (f := laws_toSay) (fun _ _ => rfl) (le32 h) _)
theorem toNet {n : Net} (h : NLe M n) : laws_toNet n = some n := by
  unfold laws_toNet
  rw [toBridgeS h.1, Option.bind_some, toLinkS h.2.1, Option.bind_some, toSayS h.2.2, Option.bind_some]
theorem eqLink (v : Link) : laws_eqLink v v = some true := by unfold laws_eqLink; simp
theorem eqSay (v : Say) : laws_eqSay v v = some true := by unfold laws_eqSay; simp [eqVec]
theorem eqBridgeS {l : List Bridge} (h : BsLe M l) : laws_eqBridgeS l l = some true := eqS_of (eq_loop (g := laws_eqBridge) (fun x hx => eqBridge (h.2 x hx)) (le32 h.1))
theorem eqLinkS {a : List Link} (h : a.length ≤ M) : laws_eqLinkS a a = some true := eqS_of (eq_loop (g := laws_eqLink) (fun x _ => eqLink x) (le32 h))
theorem eqSayS {a : List Say} (h : a.length ≤ M) : laws_eqSayS a a = some true := eqS_of (eq_loop (g := laws_eqSay) (fun x _ => eqSay x) (le32 h))
theorem eqNet {n : Net} (h : NLe M n) : laws_eqNet n n = some true := by
  unfold laws_eqNet; simp [eqBridgeS h.1, eqLinkS h.2.1, eqSayS h.2.2]
theorem net_wf {n : Net} (h : Cs.wf cNet n) : NLe maxLen n := by
  simp only [cNet, Cs.wf, CT.wf] at h
  obtain ⟨h1, h2, h3⟩ := h
  refine ⟨⟨h1.1, fun b hb => ?_⟩, h2.1, h3.1⟩
  obtain ⟨_, k1, k2, k3, k4, k5, _⟩ := h1.2 b hb
  exact ⟨k1, k2.1, k3.1, k4.1, k5.1⟩
/-! ### links that are up -/
/-- Lists are as short as lists are. -/
structure NS (n : Net) : Prop where
  b : n.1.length < 9223372036854775807
  l : n.2.1.length ≤ 1048576
  p : ∀ b ∈ n.1, b.2.2.1.length < 9223372036854775807
theorem ns_of {n : Net} (h : NLe M n) : NS n := by
  have hM : M < 9223372036854775807 := by decide
  exact ⟨by have := h.1.1; omega, h.2.1, fun b hb => by have := (h.1.2 b hb).2.1; omega⟩
def portOf (n : Net) (b p : Int) : Option Pt := cond (pIn b 0 ((n.1.length : Int) - 1)) (match at? n.1 b with
  | some x => cond (pIn p 0 ((x.2.2.1.length : Int) - 1)) (at? x.2.2.1 p) none
  | none => none) none
theorem in_at {α : Type} {l : List α} {i : Int} (h : pIn i 0 ((l.length : Int) - 1) = true) : ∃ k : Nat, ∃ hk : k < l.length, i = (k : Int) ∧ at? l i = some l[k] := by
  unfold pIn at h
  simp only [Bool.and_eq_true, decide_eq_true_eq] at h
  obtain ⟨k, rfl⟩ : ∃ k : Nat, i = (k : Int) := ⟨i.toNat, by omega⟩
  exact ⟨k, by omega, rfl, at_nat (by omega)⟩
theorem portT' {n : Net} (h : NS n) (b p : Int) : impl_portAt n b p = some (match portOf n b p with | some x => (x, true) | none => ((false, 0, false, 0, 0, 0, 0, 0), false)) := by
  unfold impl_portAt portOf
  have hb := h.b
  simp only [inT, Option.bind_some]
  rw [w64_id (n := (n.1.length : Int) - 1) (by omega) (by omega)]
  cases h1 : pIn b 0 ((n.1.length : Int) - 1) with
  | false => rfl
  | true =>
    obtain ⟨k, hk, _, e⟩ := in_at h1
    rw [e]
    simp only [Option.bind_some, cond_true, Bool.not_true, cond_false]
    have hp := h.p _ (List.getElem_mem hk)
    rw [w64_id (n := ((n.1[k]).2.2.1.length : Int) - 1) (by omega) (by omega)]
    cases h2 : pIn p 0 (((n.1[k]).2.2.1.length : Int) - 1) with
    | false => rfl
    | true =>
      obtain ⟨j, hj, _, e'⟩ := in_at h2
      simp only [Bool.not_true, cond_false, cond_true, e', Option.bind_some]
theorem upS {n : Net} (h : NS n) (b p : Int) : spec_l13Up n b p = some (match portOf n b p with | some x => x.1 | none => false) := by
  unfold spec_l13Up portOf
  have hb := h.b
  simp only [inS, Option.bind_some]
  rw [w64_id (n := (n.1.length : Int) - 1) (by omega) (by omega)]
  cases h1 : pIn b 0 ((n.1.length : Int) - 1) with
  | false => rfl
  | true =>
    obtain ⟨k, hk, _, e⟩ := in_at h1
    rw [e]
    simp only [Option.bind_some, cond_true]
    have hp := h.p _ (List.getElem_mem hk)
    rw [w64_id (n := ((n.1[k]).2.2.1.length : Int) - 1) (by omega) (by omega)]
    cases h2 : pIn p 0 (((n.1[k]).2.2.1.length : Int) - 1) with
    | false => rfl
    | true =>
      obtain ⟨j, hj, _, e'⟩ := in_at h2
      simp only [cond_true, e', Option.bind_some]
def upOf (o : Option Pt) : Bool := match o with | some x => x.1 | none => false
def linkOn (n : Net) (x : Link) : Bool := upOf (portOf n x.1 x.2.1) && upOf (portOf n x.2.2.1 x.2.2.2)
def pLinkUp (n : Net) (k : Int) : Bool := cond (pIn k 0 ((n.2.1.length : Int) - 1)) (match at? n.2.1 k with | some x => linkOn n x | none => false) false
theorem linkT {n : Net} (h : NS n) (k : Int) : impl_LinkUp n k = some (pLinkUp n k) := by
  unfold impl_LinkUp pLinkUp
  have hl := h.l
  simp only [inT, Option.bind_some]
  rw [w64_id (n := (n.2.1.length : Int) - 1) (by omega) (by omega)]
  cases h1 : pIn k 0 ((n.2.1.length : Int) - 1) with
  | false => rfl
  | true =>
    obtain ⟨j, hj, _, e⟩ := in_at h1
    rw [e]
    simp only [Option.bind_some, cond_true, Bool.not_true, cond_false, portT' h, linkOn]
    generalize portOf n n.2.1[j].1 n.2.1[j].2.1 = a
    generalize portOf n n.2.1[j].2.2.1 n.2.1[j].2.2.2 = b
    cases a with
    | none => cases b <;> rfl
    | some x => cases b with
      | none => cases hx : x.1 <;> simp [upOf, hx]
      | some y => cases hx : x.1 <;> simp [upOf, hx]
theorem linkS {n : Net} (h : NS n) (k : Int) : spec_LinkUp n k = some (pLinkUp n k) := by
  unfold spec_LinkUp pLinkUp
  have hl := h.l
  simp only [inS, Option.bind_some]
  rw [w64_id (n := (n.2.1.length : Int) - 1) (by omega) (by omega)]
  cases h1 : pIn k 0 ((n.2.1.length : Int) - 1) with
  | false => rfl
  | true =>
    obtain ⟨j, hj, _, e⟩ := in_at h1
    rw [e]
    simp only [Option.bind_some, cond_true, Bool.not_true, cond_false, upS h, linkOn]
    generalize portOf n n.2.1[j].1 n.2.1[j].2.1 = a
    generalize portOf n n.2.1[j].2.2.1 n.2.1[j].2.2.2 = b
    cases a with
    | none => rfl
    | some x => cases hx : x.1 <;> cases b <;> simp [upOf, hx]
/-- The links that are up, of the first m. -/
def upTo (n : Net) (m : Nat) : List Int := ((List.range m).filter fun (k : Nat) => pLinkUp n (k : Int)).map fun (k : Nat) => (k : Int)
theorem upTo_le (n : Net) (m : Nat) : (upTo n m).length ≤ m := by
  unfold upTo
  rw [List.length_map]
  exact Nat.le_trans (List.length_filter_le _ _) (by simp)
theorem upTo_succ (n : Net) (m : Nat) : upTo n (m + 1) = cond (pLinkUp n (m : Int)) (upTo n m ++ [(m : Int)]) (upTo n m) := by
  unfold upTo
  rw [List.range_succ, List.filter_append, List.map_append]
  cases h : pLinkUp n (m : Int) <;> simp [h]
theorem app_big {α : Type} {xs ys : List α} (h : xs.length + ys.length ≤ 4294967296) : app xs ys = some (xs ++ ys) := by
  unfold app
  rw [if_pos (show xs.length + ys.length ≤ maxN from h)]
theorem upLinksT {n : Net} (h : NS n) : impl_UpLinks n = some (upTo n n.2.1.length) := by
  unfold impl_UpLinks
  have hl := h.l
  obtain ⟨b, h1, rfl⟩ := loop_inv (step := fun z : Int × List Int => impl_UpLinks_l0 n z.1 z.2) (fun k z => z.1 = (k : Int) ∧ z.2 = upTo n k) n.2.1.length (fun l => l = upTo n n.2.1.length)
    (fun k z hk ⟨e1, e2⟩ => by
      obtain ⟨i, l⟩ := z
      simp only at e1 e2
      subst e1 e2
      left
      have hle := upTo_le n k
      refine ⟨(w64 ((k : Int) + 1), upTo n (k + 1)), ?_, w64_nat (by omega), rfl⟩
      show impl_UpLinks_l0 n (k : Int) (upTo n k) = _
      unfold impl_UpLinks_l0
      rw [dlt (by omega), cond_true, linkT h, Option.bind_some, upTo_succ]
      cases pLinkUp n (k : Int) with
      | false => rfl
      | true => rw [cond_true, app_big (by simp; omega)]; rfl)
    (fun z ⟨e1, e2⟩ => by
      obtain ⟨i, l⟩ := z
      simp only at e1 e2
      subst e1 e2
      refine ⟨_, ?_, rfl⟩
      show impl_UpLinks_l0 n _ _ = _
      unfold impl_UpLinks_l0
      simp only [dnlt (show ¬ (n.2.1.length : Int) < (n.2.1.length : Int) by omega), cond_false]) (x := (0, [])) ⟨rfl, rfl⟩
  rw [h1, Option.bind_some]
/-! ### one speaks -/
noncomputable def roleV (id : Int) (l : List Pt) (p : Int) : Int := (impl_RoleOf id l p).getD 0
theorem roleV_eq (id : Int) {l : List Pt} (hn : l.length < 9223372036854775807) (p : Int) : impl_RoleOf id l p = some (roleV id l p) := by
  obtain ⟨r, hr⟩ := roleT id hn p
  unfold roleV; rw [hr]; rfl
noncomputable def badL (n : Net) (k : Nat) : Bool := match n.2.1[k]? with
  | some x => (match at? n.1 x.1, at? n.1 x.2.2.1 with
    | some a, some b => (roleV a.1 a.2.2.1 x.2.1 == 2) == (roleV b.1 b.2.2.1 x.2.2.2 == 2)
    | _, _ => false)
  | none => false
theorem up_ends {n : Net} {k : Nat} (hk : k < n.2.1.length) (h : pLinkUp n (k : Int) = true) : (∃ a ∈ n.1, at? n.1 n.2.1[k].1 = some a) ∧ ∃ b ∈ n.1, at? n.1 n.2.1[k].2.2.1 = some b := by
  unfold pLinkUp at h
  rw [at_nat hk] at h
  cases h1 : pIn (k : Int) 0 ((n.2.1.length : Int) - 1) with
  | false => rw [h1] at h; cases h
  | true =>
    rw [h1] at h
    simp only [cond_true, linkOn, Bool.and_eq_true] at h
    have key : ∀ b p, upOf (portOf n b p) = true → ∃ a ∈ n.1, at? n.1 b = some a := by
      intro b p hu
      unfold portOf at hu
      cases h2 : pIn b 0 ((n.1.length : Int) - 1) with
      | false => rw [h2] at hu; cases hu
      | true =>
        obtain ⟨j, hj, _, e⟩ := in_at h2
        exact ⟨_, List.getElem_mem hj, e⟩
    exact ⟨key _ _ h.1, key _ _ h.2⟩
end Go.V.W
