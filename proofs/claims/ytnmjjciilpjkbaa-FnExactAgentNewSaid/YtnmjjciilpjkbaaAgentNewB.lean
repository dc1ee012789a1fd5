/- The law FnExactAgentNew: part of the proof that for every input it returns true. No condition. -/
import Derived.KernelRfl
import Derived.Test.YtnmjjciilpjkbaaAgentNew
import Derived.Test.YtnmjjciilpjkbaaAgentNewM
namespace Go.V.W
set_option linter.unusedVariables false
set_option linter.unusedSimpArgs false
set_option linter.unusedVariables false
abbrev M : Nat := 1048576
abbrev In (left : Int) : Prop := 0 ≤ left ∧ left ≤ 1048576
theorem In.next {left r : Int} (h : In left) (h1 : 0 ≤ r) (h2 : r ≤ left) : In r := ⟨h1, by have := h.2; omega⟩
theorem le32 {n : Nat} (h : n ≤ M) : n ≤ 4294967295 := Nat.le_trans h (by decide)
/-! ### room -/
theorem szIntS {a : List Int} {left : Int} (hl : In left) (h : a.length ≤ maxLen) : Room left (laws_szIntS a left) (a.length ≤ M) := room_slice hl h
theorem szPtS {a : List Pt} {left : Int} (hl : In left) (h : a.length ≤ maxLen) : Room left (laws_szPtS a left) (a.length ≤ M) := room_slice hl h
theorem szFentS {a : List Fent} {left : Int} (hl : In left) (h : a.length ≤ maxLen) : Room left (laws_szFentS a left) (a.length ≤ M) := room_slice hl h
theorem szVrowS {a : List Vrow} {left : Int} (hl : In left) (h : a.length ≤ maxLen) : Room left (laws_szVrowS a left) (a.length ≤ M) := room_slice hl h
theorem szVtab {a : Vtab} {left : Int} (hl : In left) (h : a.1.length ≤ maxLen ∧ a.2.length ≤ maxLen) : Room left (laws_szVtab a left) (a.1.length ≤ M ∧ a.2.length ≤ M ∧ True) :=
  room_bind (szVrowS hl h.1) fun r h1 h2 => room_bind (szIntS (hl.next h1 h2) h.2) fun r h1 h2 => room_some h1
/-- The slices of a bridge. -/
def BLe (n : Nat) (b : Bridge) : Prop := b.2.1.length ≤ n ∧ b.2.2.1.length ≤ n ∧ b.2.2.2.1.length ≤ n ∧ b.2.2.2.2.1.length ≤ n ∧ b.2.2.2.2.2.1.length ≤ n
theorem szBridge {b : Bridge} {left : Int} (hl : In left) (h : BLe maxLen b) : Room left (laws_szBridge b left) (BLe M b) := by
  obtain ⟨h1, h2, h3, h4, h5⟩ := h
  refine room_imp (room_let hl h1 fun r k1 k2 => room_bind (szPtS (hl.next k1 k2) h2) fun r' k3 k4 => room_bind (szFentS ((hl.next k1 k2).next k3 k4) h3) fun r'' k5 k6 => room_bind (szVtab (a := (b.2.2.2.2.1, b.2.2.2.2.2.1)) (((hl.next k1 k2).next k3 k4).next k5 k6) ⟨h4, h5⟩) fun r3 k7 k8 => room_some k7) ?_
  rintro ⟨a1, a2, a3, ⟨a4, a5, _⟩, _⟩
  exact ⟨a1, a2, a3, a4, a5⟩
def VLe (n : Nat) (v : Val) : Prop := v.2.2.1.length ≤ n ∧ v.2.2.2.length ≤ n
def XLe (n : Nat) (x : Bind) : Prop := x.1.length ≤ n ∧ VLe n x.2
def XsLe (n : Nat) (l : List Bind) : Prop := l.length ≤ n ∧ ∀ x ∈ l, XLe n x
def PLe (n : Nat) (p : Pdu) : Prop := XsLe n p.2.2.2.2
/-- A job's request, and its bridge. -/
def jP (j : Job) : Pdu := (j.2.2.2.1, j.2.2.2.2.1, j.2.2.2.2.2.1, j.2.2.2.2.2.2.1, j.2.2.2.2.2.2.2.1)
def jB (a0 : Job) : Bridge := (a0.2.2.2.2.2.2.2.2.1, a0.2.2.2.2.2.2.2.2.2.1, a0.2.2.2.2.2.2.2.2.2.2.1, a0.2.2.2.2.2.2.2.2.2.2.2.1, a0.2.2.2.2.2.2.2.2.2.2.2.2.1, a0.2.2.2.2.2.2.2.2.2.2.2.2.2.1, a0.2.2.2.2.2.2.2.2.2.2.2.2.2.2.1, a0.2.2.2.2.2.2.2.2.2.2.2.2.2.2.2.1, a0.2.2.2.2.2.2.2.2.2.2.2.2.2.2.2.2.1, a0.2.2.2.2.2.2.2.2.2.2.2.2.2.2.2.2.2.1, a0.2.2.2.2.2.2.2.2.2.2.2.2.2.2.2.2.2.2.1)
def JLe (n : Nat) (j : Job) : Prop := j.2.1.length ≤ n ∧ PLe n (jP j) ∧ BLe n (jB j)
def JsLe (n : Nat) (l : List Job) : Prop := l.length ≤ n ∧ ∀ x ∈ l, JLe n x
def aB (a0 : Agent) : Bridge := (a0.1, a0.2.1, a0.2.2.1, a0.2.2.2.1, a0.2.2.2.2.1, a0.2.2.2.2.2.1, a0.2.2.2.2.2.2.1, a0.2.2.2.2.2.2.2.1, a0.2.2.2.2.2.2.2.2.1, a0.2.2.2.2.2.2.2.2.2.1, a0.2.2.2.2.2.2.2.2.2.2.1)
def ALe (n : Nat) (a : Agent) : Prop := BLe n (aB a) ∧ a.2.2.2.2.2.2.2.2.2.2.2.1.length ≤ n ∧ JsLe n a.2.2.2.2.2.2.2.2.2.2.2.2.1
/-! ### copies -/
theorem toIntS {a : List Int} (h : a.length ≤ M) : laws_toIntS a = some a := toS_of (le32 h) (to_loop' (le32 h) 0)
theorem toPtS {a : List Pt} (h : a.length ≤ M) : laws_toPtS a = some a := toS_of (le32 h) (to_loop (f := laws_toPt) (fun _ _ => rfl) (le32 h) _)
theorem toFentS {a : List Fent} (h : a.length ≤ M) : laws_toFentS a = some a := toS_of (le32 h) (to_loop (f := laws_toFent) (fun _ _ => rfl) (le32 h) _)
theorem toVrowS {a : List Vrow} (h : a.length ≤ M) : laws_toVrowS a = some a := toS_of (le32 h) (to_loop (f := laws_toVrow) (fun _ _ => rfl) (le32 h) _)
theorem toVtab {a : Vtab} (h : a.1.length ≤ M ∧ a.2.length ≤ M) : laws_toVtab a = some a := by
  unfold laws_toVtab
  rw [toVrowS h.1, Option.bind_some, toIntS h.2, Option.bind_some]
theorem toBridge {b : Bridge} (h : BLe M b) : laws_toBridge b = some b := by
  obtain ⟨h1, h2, h3, h4, h5⟩ := h
  unfold laws_toBridge
  rw [toPtS h2, Option.bind_some, toFentS h3, Option.bind_some, toVtab ⟨h4, h5⟩, Option.bind_some]
/-! ### the same -/
theorem eqVec (v : Vec) : laws_eqVec v v = some true := by unfold laws_eqVec; simp
theorem eqPt (v : Pt) : laws_eqPt v v = some true := by unfold laws_eqPt; simp [eqVec]
theorem eqFent (v : Fent) : laws_eqFent v v = some true := by unfold laws_eqFent; simp
theorem eqVrow (v : Vrow) : laws_eqVrow v v = some true := by unfold laws_eqVrow; simp
theorem eqIntS {a : List Int} (h : a.length ≤ M) : laws_eqIntS a a = some true := eqS_of (eq_loop' (le32 h))
theorem eqByteS {a : List Int} (h : a.length ≤ M) : laws_eqByteS a a = some true := eqS_of (eq_loop' (le32 h))
theorem eqPtS {a : List Pt} (h : a.length ≤ M) : laws_eqPtS a a = some true := eqS_of (eq_loop (g := laws_eqPt) (fun x _ => eqPt x) (le32 h))
theorem eqFentS {a : List Fent} (h : a.length ≤ M) : laws_eqFentS a a = some true := eqS_of (eq_loop (g := laws_eqFent) (fun x _ => eqFent x) (le32 h))
theorem eqVrowS {a : List Vrow} (h : a.length ≤ M) : laws_eqVrowS a a = some true := eqS_of (eq_loop (g := laws_eqVrow) (fun x _ => eqVrow x) (le32 h))
theorem eqVtab {a : Vtab} (h : a.1.length ≤ M ∧ a.2.length ≤ M) : laws_eqVtab a a = some true := by
  unfold laws_eqVtab; simp [eqVrowS h.1, eqIntS h.2]
theorem eqBridge {b : Bridge} (h : BLe M b) : laws_eqBridge b b = some true := by
  obtain ⟨h1, h2, h3, h4, h5⟩ := h
  unfold laws_eqBridge
  simp [eqPtS h2, eqFentS h3, eqVtab (a := (b.2.2.2.2.1, b.2.2.2.2.2.1)) ⟨h4, h5⟩]
theorem eqVal {v : Val} (h : VLe M v) : laws_eqVal v v = some true := by
  unfold laws_eqVal; simp [eqIntS h.2]
theorem eqBind {x : Bind} (h : XLe M x) : laws_eqBind x x = some true := by
  unfold laws_eqBind; simp [eqIntS h.1, eqVal h.2]
theorem eqBindS {l : List Bind} (h : XsLe M l) : laws_eqBindS l l = some true := eqS_of (eq_loop (g := laws_eqBind) (fun x hx => eqBind (h.2 x hx)) (le32 h.1))
theorem eqPdu {p : Pdu} (h : PLe M p) : laws_eqPdu p p = some true := by
  unfold laws_eqPdu; simp [eqBindS (l := p.2.2.2.2) h]
theorem eqJob {j : Job} (h : JLe M j) : laws_eqJob j j = some true := by
  have h2 := eqPdu h.2.1
  have h3 := eqBridge h.2.2
  unfold jP at h2
  unfold jB at h3
  unfold laws_eqJob
  simp [eqByteS h.1, h2, h3]
theorem eqJobS {l : List Job} (h : JsLe M l) : laws_eqJobS l l = some true := eqS_of (eq_loop (g := laws_eqJob) (fun x hx => eqJob (h.2 x hx)) (le32 h.1))
theorem eqAgent {a : Agent} (h : ALe M a) : laws_eqAgent a a = some true := by
  have h1 := eqBridge h.1
  unfold aB at h1
  unfold laws_eqAgent
  simp [h1, eqJobS h.2.2]

set_option linter.unusedVariables false
set_option linter.unusedSimpArgs false
/-- The same loop. -/
theorem loop_congr {α β : Type} {f g : α → Option (α ⊕ β)} (Inv : α → Prop) (h : ∀ x, Inv x → f x = g x) (hi : ∀ x y, Inv x → f x = some (.inl y) → Inv y) {x : α} (h0 : Inv x) : loop f x = loop g x := by
  have key : ∀ k x, Inv x → iter f k x = iter g k x := by
    intro k
    induction k with
    | zero => intro x _; rfl
    | succ k ih =>
      intro x hx
      rw [iter_succ, iter_succ, ← h x hx]
      cases hf : f x with
      | none => rfl
      | some v => cases v with
        | inl y => exact ih y (hi x y hx hf)
        | inr b => rfl
  have hex : (∃ k, (iter f k x).isSome) ↔ ∃ k, (iter g k x).isSome := by
    constructor <;> rintro ⟨k, hk⟩ <;> exact ⟨k, by first | rwa [← key k x h0] | rwa [key k x h0]⟩
  by_cases hc : ∃ k, (iter f k x).isSome
  · obtain ⟨k, hk⟩ := hc
    cases hv : iter f k x with
    | none => rw [hv] at hk; cases hk
    | some b => rw [loop_of hv, loop_of ((key k x h0) ▸ hv)]
  · have hc' : ¬ ∃ k, (iter g k x).isSome := fun h => hc (hex.2 h)
    unfold loop
    rw [dif_neg hc, dif_neg hc']
theorem loop_ext {α β : Type} {f g : α → Option (α ⊕ β)} (h : ∀ x, f x = g x) (x : α) : loop f x = loop g x := by rw [funext h]
def pIn (x a b : Int) : Bool := decide (x ≥ a) && decide (x ≤ b)
theorem inT (x a b : Int) : impl_in x a b = some (pIn x a b) := by
  unfold impl_in pIn
  cases decide (x ≥ a) <;> rfl
theorem inS (x a b : Int) : spec_l1In x a b = some (pIn x a b) := inT x a b
def pVec (v : Vec) : Bool := pIn v.1 1 99 && (pIn v.2.1 0 100000 && (pIn v.2.2.1 0 10 && (pIn v.2.2.2.1 1 99 && pIn v.2.2.2.2 0 7)))
theorem vecT (v : Vec) : impl_VecOk v = some (pVec v) := by
  unfold impl_VecOk pVec
  simp only [inT, Option.bind_some]
  cases pIn v.1 1 99 <;> cases pIn v.2.1 0 100000 <;> cases pIn v.2.2.1 0 10 <;> cases pIn v.2.2.2.1 1 99 <;> rfl
theorem vecS : spec_VecOk = impl_VecOk := rfl
def pPt (p : Pt) : Bool := pIn p.2.1 1 1000 && (!(p.2.2.1 && !p.1) && (cond p.2.2.1 (pVec p.2.2.2) (p.2.2.2.1 == 0 && (p.2.2.2.2.1 == 0 && (p.2.2.2.2.2.1 == 0 && (p.2.2.2.2.2.2.1 == 0 && (p.2.2.2.2.2.2.2 == 0)))))))
theorem ptT (p : Pt) : impl_PtOk p = some (pPt p) := by
  obtain ⟨up, cost, heard, v⟩ := p
  unfold impl_PtOk pPt
  simp only [inT, vecT, Option.bind_some]
  cases pIn cost 1 1000 <;> cases up <;> cases heard <;> rfl
theorem ptS (p : Pt) : spec_PtOk p = some (pPt p) := by
  obtain ⟨up, cost, heard, v⟩ := p
  unfold spec_PtOk pPt
  simp only [inS, vecS, vecT, Option.bind_some]
  cases pIn cost 1 1000 <;> cases up <;> cases heard <;> rfl
/-! ### a loop that asks of each -/
theorem all_loop {n : Nat} {c : Int → Option Bool} {b : Nat → Bool} (hn : n < 9223372036854775807) (hc : ∀ k, k < n → c (k : Int) = some (b k)) :
    loop (fun i : Int => cond (decide (i < (n : Int))) ((c i).bind fun t => cond t (some (.inr (.inr false))) (some (.inl (w64 (i + 1))))) (some (.inr (.inl ())))) 0 = some (cond ((List.range n).any b) (Sum.inr false) (Sum.inl ()) : Unit ⊕ Bool) := by
  obtain ⟨v, h1, h2⟩ := loop_inv (β := Unit ⊕ Bool) (step := fun i : Int => cond (decide (i < (n : Int))) ((c i).bind fun t => cond t (some (.inr (.inr false))) (some (.inl (w64 (i + 1))))) (some (.inr (.inl ()))))
    (fun k i => i = (k : Int) ∧ (List.range k).any b = false) n (fun v => v = cond ((List.range n).any b) (Sum.inr false) (Sum.inl ()))
    (fun k i hk ⟨e, ha⟩ => by
      subst e
      have hs : (cond (decide ((k : Int) < (n : Int))) ((c (k : Int)).bind fun t => cond t (some (.inr (.inr false))) (some (.inl (w64 ((k : Int) + 1))))) (some (.inr (.inl ()))) : Option (Int ⊕ (Unit ⊕ Bool))) = cond (b k) (some (.inr (.inr false))) (some (.inl ((k + 1 : Nat) : Int))) := by
        rw [dlt (by omega), cond_true, hc k hk, Option.bind_some, w64_nat (by omega)]
      cases hb : b k with
      | true =>
        refine .inr ⟨.inr false, by rw [hs, hb]; rfl, ?_⟩
        have : (List.range n).any b = true := List.any_eq_true.2 ⟨k, List.mem_range.2 hk, hb⟩
        rw [this]; rfl
      | false =>
        refine .inl ⟨_, by rw [hs, hb]; rfl, rfl, ?_⟩
        rw [List.range_succ, List.any_append, ha]; simp [hb])
    (fun i ⟨e, ha⟩ => by
      subst e
      exact ⟨.inl (), by rw [dnlt (by omega), cond_false], by rw [ha]; rfl⟩) (x := 0) ⟨rfl, rfl⟩
  rw [h1, h2]
/-! ### the table of addresses -/
def pFent (e : Fent) : Bool := pIn e.1 1 99 && (pIn e.2.1 1 9999 && (pIn e.2.2.1 0 7 && (pIn e.2.2.2.1 0 4 && (!e.2.2.2.2 || e.2.2.2.1 == 0))))
theorem fentT (e : Fent) : impl_fentOk e = some (pFent e) := by
  unfold impl_fentOk pFent
  simp only [inT, Option.bind_some]
  cases pIn e.1 1 99 <;> cases pIn e.2.1 1 9999 <;> cases pIn e.2.2.1 0 7 <;> cases pIn e.2.2.2.1 0 4 <;> cases e.2.2.2.2 <;> rfl
theorem fentS : spec_l8Ent = impl_fentOk := rfl
def pBehind (e : Fent) (tag mac : Int) : Bool := decide (e.1 > tag) || (e.1 == tag && decide (e.2.1 > mac))
theorem behindT (e : Fent) (tag mac : Int) : impl_behind e tag mac = some (pBehind e tag mac) := by
  unfold impl_behind pBehind
  cases decide (e.1 > tag) <;> cases (e.1 == tag) <;> rfl
theorem aheadS (p e : Fent) : spec_l8Ahead p e.1 e.2.1 = some (pBehind e p.1 p.2.1) := by
  unfold spec_l8Ahead pBehind
  by_cases h : p.1 = e.1
  · simp [h]
  · have h' : ¬ e.1 = p.1 := fun k => h k.symm
    have e1 : (p.1 != e.1) = true := by simpa using h
    have e2 : (e.1 == p.1) = false := by simpa using h'
    rw [e1, e2, cond_true, Bool.false_and, Bool.or_false]
def bFent (l : List Fent) (k : Nat) : Bool := match l[k]? with
  | some e => !(pFent e) || (decide (0 < k) && (match l[k - 1]? with | some p => !(pBehind e p.1 p.2.1) | none => false))
  | none => false
def pFdb (l : List Fent) : Bool := !((List.range l.length).any (bFent l)) && decide ((l.length : Int) ≤ 12)
theorem prev_at {α : Type} {l : List α} {k : Nat} (h : k < l.length) (hk : 0 < k) (hn : l.length < 9223372036854775807) : at? l (w64 ((k : Int) - 1)) = some l[k - 1] := by
  rw [w64_id (by omega) (by omega), show (k : Int) - 1 = ((k - 1 : Nat) : Int) by omega, at_nat (by omega)]
theorem fdbT {l : List Fent} (hn : l.length < 9223372036854775807) : impl_FdbOk l = some (pFdb l) := by
  unfold impl_FdbOk pFdb
  have h := all_loop (n := l.length) (c := fun i => (at? l i).bind fun x10 => (impl_fentOk x10).bind fun t13 => (cond (!t13) (some true) ((cond (decide (i > 0)) ((at? l (w64 (i - 1))).bind fun x23 => (at? l (w64 (i - 1))).bind fun x29 => (impl_behind x10 x23.1 x29.2.1).bind fun t32 => some (!t32)) (some false)).bind fun t34 => some t34)).bind fun t => some t) (b := bFent l) hn (fun k hk => by
    simp only [at_nat hk, Option.bind_some, fentT, bFent, List.getElem?_eq_getElem hk]
    cases pFent l[k] with
    | false => rfl
    | true =>
      by_cases h0 : 0 < k
      · have hd : decide ((k : Int) > 0) = true := decide_eq_true (by omega)
        simp only [hd, prev_at hk h0 hn, Option.bind_some, behindT, decide_eq_true h0, List.getElem?_eq_getElem (show k - 1 < l.length by omega)]
        rfl
      · have hd : decide ((k : Int) > 0) = false := decide_eq_false (by omega)
        simp only [hd, decide_eq_false h0]
        rfl)
  have e : (loop (fun z => impl_FdbOk_l0 l z) 0) = some (cond ((List.range l.length).any (bFent l)) (Sum.inr false) (Sum.inl ())) := by
    rw [← h]
    refine loop_ext (fun i => ?_) 0
    unfold impl_FdbOk_l0
    simp only [Option.bind_assoc, Option.bind_some]
  rw [e, Option.bind_some]
  cases (List.range l.length).any (bFent l) <;> rfl
theorem fdbS {l : List Fent} (hn : l.length < 9223372036854775807) : spec_FdbOk l = some (pFdb l) := by
  unfold spec_FdbOk pFdb
  have h := all_loop (n := l.length) (c := fun i => (at? l i).bind fun x12 => (spec_l8Ent x12).bind fun t14 => (cond (!t14) (some true) ((cond (decide (i > 0)) ((at? l (w64 (i - 1))).bind fun x23 => (at? l i).bind fun x27 => (at? l i).bind fun x32 => (spec_l8Ahead x23 x27.1 x32.2.1).bind fun t35 => some (!t35)) (some false)).bind fun t37 => some t37)).bind fun t => some t) (b := bFent l) hn (fun k hk => by
    simp only [at_nat hk, Option.bind_some, fentS, fentT, bFent, List.getElem?_eq_getElem hk]
    cases pFent l[k] with
    | false => rfl
    | true =>
      by_cases h0 : 0 < k
      · have hd : decide ((k : Int) > 0) = true := decide_eq_true (by omega)
        simp only [hd, prev_at hk h0 hn, Option.bind_some, aheadS, decide_eq_true h0, List.getElem?_eq_getElem (show k - 1 < l.length by omega)]
        rfl
      · have hd : decide ((k : Int) > 0) = false := decide_eq_false (by omega)
        simp only [hd, decide_eq_false h0]
        rfl)
  have e : (loop (fun z => spec_FdbOk_l0 l z) 0) = some (cond ((List.range l.length).any (bFent l)) (Sum.inr false) (Sum.inl ())) := by
    rw [← h]
    refine loop_ext (fun i => ?_) 0
    unfold spec_FdbOk_l0
    simp only [Option.bind_assoc, Option.bind_some]
  rw [e, Option.bind_some]
  cases (List.range l.length).any (bFent l) <;> rfl

set_option linter.unusedVariables false
set_option linter.unusedSimpArgs false
/-! ### networks -/
theorem rowAtS : spec_RowAt = impl_RowAt := rfl
theorem rowAtT {v : Vtab} (hn : v.1.length < 9223372036854775807) (id : Int) : ∃ r, impl_RowAt v id = some r := by
  unfold impl_RowAt
  obtain ⟨b, h1, _⟩ := loop_inv (β := Unit ⊕ Int) (step := fun z => impl_RowAt_l0 v id z) (fun k i => i = (k : Int)) v.1.length (fun _ => True)
    (fun k i hk h => by
      subst h
      unfold impl_RowAt_l0
      rw [dlt (by omega), cond_true, at_nat hk, Option.bind_some]
      cases (v.1[k].1 == id) with
      | true => exact .inr ⟨_, rfl, trivial⟩
      | false => exact .inl ⟨_, rfl, w64_nat (by omega)⟩)
    (fun i h => by
      subst h
      unfold impl_RowAt_l0
      rw [dnlt (by omega)]
      exact ⟨_, rfl, trivial⟩) (x := 0) rfl
  rw [h1, Option.bind_some]
  cases b with
  | inl _ => exact ⟨_, rfl⟩
  | inr r => exact ⟨r, rfl⟩
def pTop (i : Int) : Int := (2 : Int) ^ i.toNat - 1
theorem range6 {i : Int} (h : pIn i 1 6 = true) : i = 1 ∨ i = 2 ∨ i = 3 ∨ i = 4 ∨ i = 5 ∨ i = 6 := by
  unfold pIn at h
  simp only [Bool.and_eq_true, decide_eq_true_eq] at h
  omega
theorem allPortsT {i : Int} (h : pIn i 1 6 = true) : impl_allPorts i = some (pTop i) := by
  rcases range6 h with rfl | rfl | rfl | rfl | rfl | rfl <;> rfl
theorem shlS {i : Int} (h : pIn i 1 6 = true) : ∃ t, shl .i64 1 (IntKind.u64.wrap i) = some t ∧ w64 (t - 1) = pTop i := by
  rcases range6 h with rfl | rfl | rfl | rfl | rfl | rfl <;> exact ⟨_, rfl, rfl⟩
theorem topLe {i : Int} (h : pIn i 1 6 = true) : 1 ≤ pTop i ∧ pTop i ≤ 63 := by
  rcases range6 h with rfl | rfl | rfl | rfl | rfl | rfl <;> decide
/-! #### bits -/
theorem wrap_toNat (x : BitVec 64) : IntKind.i64.wrap (x.toNat : Int) = x.toInt := by
  have hx := x.isLt
  rw [BitVec.toInt_eq_toNat_cond]
  show (let m := (x.toNat : Int) % 18446744073709551616; if (true && decide (m ≥ 9223372036854775808)) = true then m - 18446744073709551616 else m) = _
  simp only [Bool.true_and, decide_eq_true_eq]
  have h1 : (x.toNat : Int) % 18446744073709551616 = (x.toNat : Int) := by omega
  rw [h1]
  split <;> split <;> omega
theorem ofInt_toInt {b : Int} (h1 : -9223372036854775808 ≤ b) (h2 : b ≤ 9223372036854775807) : (BitVec.ofInt 64 b).toInt = b := by
  rw [BitVec.toInt_ofInt]
  unfold Int.bmod
  simp only
  split <;> omega
theorem bandT (a b : Int) : band .i64 a b = (BitVec.ofInt 64 a &&& BitVec.ofInt 64 b).toInt := wrap_toNat _
theorem bclrT (a b : Int) : bclr .i64 a b = (BitVec.ofInt 64 a &&& ~~~ BitVec.ofInt 64 b).toInt := wrap_toNat _
theorem and_iff (x y : BitVec 64) : x &&& y = x ↔ x &&& ~~~ y = 0 := by
  constructor
  · intro h
    apply BitVec.eq_of_getLsbD_eq
    intro i hi
    have := congrArg (fun z => z.getLsbD i) h
    simp only [BitVec.getLsbD_and] at this
    simp only [BitVec.getLsbD_and, BitVec.getLsbD_not, BitVec.getLsbD_zero, hi, decide_true, Bool.true_and]
    cases hx : x.getLsbD i <;> cases hy : y.getLsbD i <;> simp_all
  · intro h
    apply BitVec.eq_of_getLsbD_eq
    intro i hi
    have := congrArg (fun z => z.getLsbD i) h
    simp only [BitVec.getLsbD_and, BitVec.getLsbD_not, BitVec.getLsbD_zero, hi, decide_true, Bool.true_and] at this
    simp only [BitVec.getLsbD_and]
    cases hx : x.getLsbD i <;> cases hy : y.getLsbD i <;> simp_all
/-- What is held back is among what is meant, said in two ways. -/
theorem bits_same {b m : Int} (h1 : -9223372036854775808 ≤ b) (h2 : b ≤ 9223372036854775807) : (band .i64 b m != b) = (bclr .i64 b m != 0) := by
  rw [bandT, bclrT]
  have e : ((BitVec.ofInt 64 b &&& BitVec.ofInt 64 m).toInt = b) ↔ ((BitVec.ofInt 64 b &&& ~~~ BitVec.ofInt 64 m).toInt = 0) := by
    constructor
    · intro h
      have : BitVec.ofInt 64 b &&& BitVec.ofInt 64 m = BitVec.ofInt 64 b := BitVec.eq_of_toInt_eq (by rw [h, ofInt_toInt h1 h2])
      rw [(and_iff _ _).1 this]; rfl
    · intro h
      have : BitVec.ofInt 64 b &&& ~~~ BitVec.ofInt 64 m = 0 := BitVec.eq_of_toInt_eq (by rw [h]; rfl)
      rw [(and_iff _ _).2 this, ofInt_toInt h1 h2]
  by_cases h : (BitVec.ofInt 64 b &&& BitVec.ofInt 64 m).toInt = b
  · have h' := e.1 h
    simp [h, h']
  · have h' : ¬ (BitVec.ofInt 64 b &&& ~~~ BitVec.ofInt 64 m).toInt = 0 := fun k => h (e.2 k)
    rw [bne_iff_ne.2 h, bne_iff_ne.2 h']
theorem bits_in {b m t : Int} (h1 : -9223372036854775808 ≤ b) (h2 : b ≤ 9223372036854775807) (hm : pIn m 0 t = true) (ht : t ≤ 63) (h : (band .i64 b m != b) = false) : pIn b 0 t = true := by
  unfold pIn at hm ⊢
  simp only [Bool.and_eq_true, decide_eq_true_eq] at hm ⊢
  have h : band .i64 b m = b := by simpa using h
  rw [bandT] at h
  have e : BitVec.ofInt 64 b &&& BitVec.ofInt 64 m = BitVec.ofInt 64 b := BitVec.eq_of_toInt_eq (by rw [h, ofInt_toInt h1 h2])
  have hM : (BitVec.ofInt 64 m).toNat = m.toNat := by
    rw [BitVec.toNat_ofInt]
    omega
  have hle : (BitVec.ofInt 64 b).toNat ≤ m.toNat := by
    rw [← e, BitVec.toNat_and, hM]; exact Nat.and_le_right
  have hb : (BitVec.ofInt 64 b).toInt = ((BitVec.ofInt 64 b).toNat : Int) := by
    rw [BitVec.toInt_eq_toNat_cond]; split <;> omega
  rw [ofInt_toInt h1 h2] at hb
  omega
def bRow (v : Vtab) (i : Int) (k : Nat) : Bool := match v.1[k]? with
  | some r => !(pIn r.1 1 99) || ((decide (0 < k) && (match v.1[k - 1]? with | some p => decide (p.1 ≥ r.1) | none => false)) || (!(pIn r.2.1 0 (pTop i)) || (bclr .i64 r.2.2 r.2.1 != 0)))
  | none => false
noncomputable def bPvid (v : Vtab) (k : Nat) : Bool := match v.2[k]? with
  | some x => (match impl_RowAt v x with | some t => decide (t < 0) | none => false)
  | none => false
noncomputable def pVtab (v : Vtab) (i : Int) : Bool := !(!(pIn i 1 6) || ((v.2.length : Int) != i || decide ((v.1.length : Int) > 6))) && (!((List.range v.1.length).any (bRow v i)) && !((List.range v.2.length).any (bPvid v)))
theorem rows_loop {v : Vtab} {i : Int} (hi : pIn i 1 6 = true) (hn : v.1.length < 9223372036854775807) : loop (fun z => impl_VtabOk_l0 v i z) 0 = some (cond ((List.range v.1.length).any (bRow v i)) (Sum.inr false) (Sum.inl ())) := by
  rw [← all_loop (n := v.1.length) (c := fun t28 => (at? v.1 t28).bind fun x31 =>
    (impl_in x31.1 1 99).bind fun t35 =>
    (cond (!t35) (some true) ((cond (decide (t28 > 0)) ((at? v.1 (w64 (t28 - 1))).bind fun x45 => some (decide (x45.1 ≥ x31.1))) (some false)).bind fun t51 => some t51)).bind fun t52 =>
    (cond t52 (some true) ((impl_allPorts i).bind fun t57 => (impl_in x31.2.1 0 t57).bind fun t58 => some (!t58))).bind fun t60 =>
    (cond t60 (some true) (some ((bclr .i64 x31.2.2 x31.2.1) != 0))).bind fun t => some t) (b := bRow v i) hn (fun k hk => by
      simp only [at_nat hk, Option.bind_some, inT, bRow, List.getElem?_eq_getElem hk, allPortsT hi]
      cases pIn v.1[k].1 1 99 with
      | false => rfl
      | true =>
        by_cases h0 : 0 < k
        · have hd : decide ((k : Int) > 0) = true := decide_eq_true (by omega)
          simp only [hd, prev_at hk h0 hn, Option.bind_some, decide_eq_true h0, List.getElem?_eq_getElem (show k - 1 < v.1.length by omega)]
          cases decide (v.1[k - 1].1 ≥ v.1[k].1) <;> cases pIn v.1[k].2.1 0 (pTop i) <;> rfl
        · have hd : decide ((k : Int) > 0) = false := decide_eq_false (by omega)
          simp only [hd, decide_eq_false h0]
          cases pIn v.1[k].2.1 0 (pTop i) <;> rfl)]
  refine loop_ext (fun i => ?_) 0
  unfold impl_VtabOk_l0
  simp only [Option.bind_assoc, Option.bind_some]
theorem rows_loopS {v : Vtab} {i t : Int} (hi : pIn i 1 6 = true) (ht : w64 (t - 1) = pTop i) (hn : v.1.length < 9223372036854775807) (hw : ∀ r ∈ v.1, -9223372036854775808 ≤ r.2.2 ∧ r.2.2 ≤ 9223372036854775807) : loop (fun z => spec_VtabOk_l0 v t z) 0 = some (cond ((List.range v.1.length).any (bRow v i)) (Sum.inr false) (Sum.inl ())) := by
  rw [← all_loop (n := v.1.length) (c := fun t6 => (at? v.1 t6).bind fun x39 =>
    (spec_l1In x39.1 1 99).bind fun t43 =>
    (cond (!t43) (some true) ((spec_l1In x39.2.1 0 (w64 (t - 1))).bind fun t49 => some (!t49))).bind fun t51 =>
    (cond t51 (some true) ((spec_l1In x39.2.2 0 (w64 (t - 1))).bind fun t56 => some (!t56))).bind fun t58 =>
    (cond t58 (some true) (some ((band .i64 x39.2.2 x39.2.1) != x39.2.2))).bind fun t68 =>
    (cond t68 (some true) ((cond (decide (t6 > 0)) ((at? v.1 (w64 (t6 - 1))).bind fun x77 => some (decide (x77.1 ≥ x39.1))) (some false)).bind fun t83 => some t83)).bind fun t => some t) (b := bRow v i) hn (fun k hk => by
      obtain ⟨w1, w2⟩ := hw _ (List.getElem_mem hk)
      have hs := bits_same (m := v.1[k].2.1) w1 w2
      have hin := bits_in (m := v.1[k].2.1) (t := pTop i) w1 w2
      have ht2 := (topLe hi).2
      simp only [at_nat hk, Option.bind_some, inS, bRow, List.getElem?_eq_getElem hk, ht]
      rw [← hs]
      cases h1 : pIn v.1[k].1 1 99 with
      | false => rfl
      | true =>
        cases h2 : pIn v.1[k].2.1 0 (pTop i) with
        | false =>
          by_cases h0 : 0 < k
          · simp only [decide_eq_true h0, List.getElem?_eq_getElem (show k - 1 < v.1.length by omega)]
            cases decide (v.1[k - 1].1 ≥ v.1[k].1) <;> rfl
          · simp only [decide_eq_false h0]; rfl
        | true =>
          cases h3 : (band .i64 v.1[k].2.2 v.1[k].2.1 != v.1[k].2.2) with
          | true =>
            by_cases h0 : 0 < k
            · simp only [decide_eq_true h0, List.getElem?_eq_getElem (show k - 1 < v.1.length by omega)]
              cases decide (v.1[k - 1].1 ≥ v.1[k].1) <;> cases pIn v.1[k].2.2 0 (pTop i) <;> rfl
            · simp only [decide_eq_false h0]; cases pIn v.1[k].2.2 0 (pTop i) <;> rfl
          | false =>
            have h4 := hin h2 ht2 h3
            rw [h4]
            by_cases h0 : 0 < k
            · have hd : decide ((k : Int) > 0) = true := decide_eq_true (by omega)
              simp only [hd, prev_at hk h0 hn, Option.bind_some, decide_eq_true h0, List.getElem?_eq_getElem (show k - 1 < v.1.length by omega)]
              cases decide (v.1[k - 1].1 ≥ v.1[k].1) <;> rfl
            · have hd : decide ((k : Int) > 0) = false := decide_eq_false (by omega)
              simp only [hd, decide_eq_false h0]
              rfl)]
  refine loop_ext (fun i => ?_) 0
  unfold spec_VtabOk_l0
  simp only [Option.bind_assoc, Option.bind_some]
theorem pvid_loop {v : Vtab} (hn : v.1.length < 9223372036854775807) (hn2 : v.2.length < 9223372036854775807) : loop (fun z => impl_VtabOk_l2 v z) 0 = some (cond ((List.range v.2.length).any (bPvid v)) (Sum.inr false) (Sum.inl ())) := by
  rw [← all_loop (n := v.2.length) (c := fun t73 => (at? v.2 t73).bind fun x75 => (impl_RowAt v x75).bind fun t79 => some (decide (t79 < 0))) (b := bPvid v) hn2 (fun k hk => by
    obtain ⟨r, hr⟩ := rowAtT hn v.2[k]
    simp only [at_nat hk, Option.bind_some, bPvid, List.getElem?_eq_getElem hk, hr])]
  refine loop_ext (fun i => ?_) 0
  unfold impl_VtabOk_l2
  simp only [Option.bind_assoc, Option.bind_some]
theorem pvidS : spec_VtabOk_l2 = impl_VtabOk_l2 := rfl
theorem vtabT {v : Vtab} (i : Int) (hn : v.1.length < 9223372036854775807) (hn2 : v.2.length < 9223372036854775807) : impl_VtabOk v i = some (pVtab v i) := by
  unfold impl_VtabOk pVtab
  simp only [inT, Option.bind_some]
  cases hi : pIn i 1 6 with
  | false => rfl
  | true =>
    rw [rows_loop hi hn, pvid_loop hn hn2]
    cases ((v.2.length : Int) != i) <;> cases decide ((v.1.length : Int) > 6) <;> cases (List.range v.1.length).any (bRow v i) <;> cases (List.range v.2.length).any (bPvid v) <;> rfl
theorem vtabS {v : Vtab} (i : Int) (hn : v.1.length < 9223372036854775807) (hn2 : v.2.length < 9223372036854775807) (hw : ∀ r ∈ v.1, -9223372036854775808 ≤ r.2.2 ∧ r.2.2 ≤ 9223372036854775807) : spec_VtabOk v i = some (pVtab v i) := by
  unfold spec_VtabOk pVtab
  simp only [inS, Option.bind_some, pvidS]
  cases hi : pIn i 1 6 with
  | false => rfl
  | true =>
    obtain ⟨t, h1, h2⟩ := shlS hi
    rw [h1, Option.bind_some, rows_loopS hi h2 hn hw, pvid_loop hn hn2]
    cases ((v.2.length : Int) != i) <;> cases decide ((v.1.length : Int) > 6) <;> cases (List.range v.1.length).any (bRow v i) <;> cases (List.range v.2.length).any (bPvid v) <;> rfl
/-! ### a bridge -/
def bPt (l : List Pt) (k : Nat) : Bool := match l[k]? with | some p => !(pPt p) | none => false
def pCounts (b : Bridge) : Bool := pIn b.2.2.2.2.2.2.1 0 1000000 && (pIn b.2.2.2.2.2.2.2.1 0 1000000 && (pIn b.2.2.2.2.2.2.2.2.1 0 1000000 && (pIn b.2.2.2.2.2.2.2.2.2.1 0 1000000 && pIn b.2.2.2.2.2.2.2.2.2.2 0 1000000)))
noncomputable def pBridge (b : Bridge) : Bool := !((List.range b.2.2.1.length).any (bPt b.2.2.1)) && (pIn b.1 1 99 && (!(decide ((b.2.1.length : Int) > 10)) && (pIn (b.2.2.1.length : Int) 1 6 && (pFdb b.2.2.2.1 && (pVtab (b.2.2.2.2.1, b.2.2.2.2.2.1) (b.2.2.1.length : Int) && pCounts b)))))
/-- A bridge whose slices are no longer than slices are, and whose numbers are. -/
structure BWf (b : Bridge) : Prop where
  p : b.2.2.1.length < 9223372036854775807
  f : b.2.2.2.1.length < 9223372036854775807
  v : b.2.2.2.2.1.length < 9223372036854775807
  q : b.2.2.2.2.2.1.length < 9223372036854775807
  r : ∀ r ∈ b.2.2.2.2.1, -9223372036854775808 ≤ r.2.2 ∧ r.2.2 ≤ 9223372036854775807
theorem ports_loop {b : Bridge} (h : BWf b) : loop (fun z => impl_BridgeOk_l0 b z) 0 = some (cond ((List.range b.2.2.1.length).any (bPt b.2.2.1)) (Sum.inr false) (Sum.inl ())) := by
  rw [← all_loop (n := b.2.2.1.length) (c := fun t8 => (at? b.2.2.1 t8).bind fun x10 => (impl_PtOk x10).bind fun t13 => some (!t13)) (b := bPt b.2.2.1) h.p (fun k hk => by
    simp only [at_nat hk, Option.bind_some, bPt, List.getElem?_eq_getElem hk, ptT])]
  refine loop_ext (fun i => ?_) 0
  unfold impl_BridgeOk_l0
  simp only [Option.bind_assoc, Option.bind_some]
theorem ports_loopS {b : Bridge} (h : BWf b) : loop (fun z => spec_BridgeOk_l0 b z) 0 = some (cond ((List.range b.2.2.1.length).any (bPt b.2.2.1)) (Sum.inr false) (Sum.inl ())) := by
  rw [← all_loop (n := b.2.2.1.length) (c := fun t8 => (at? b.2.2.1 t8).bind fun x10 => (spec_PtOk x10).bind fun t13 => some (!t13)) (b := bPt b.2.2.1) h.p (fun k hk => by
    simp only [at_nat hk, Option.bind_some, bPt, List.getElem?_eq_getElem hk, ptS])]
  refine loop_ext (fun i => ?_) 0
  unfold spec_BridgeOk_l0
  simp only [Option.bind_assoc, Option.bind_some]
theorem countsS (b : Bridge) : spec_l11Counts b = some (pCounts b) := by
  unfold spec_l11Counts pCounts
  simp only [inS, Option.bind_some]
  cases pIn b.2.2.2.2.2.2.1 0 1000000 <;> cases pIn b.2.2.2.2.2.2.2.1 0 1000000 <;> cases pIn b.2.2.2.2.2.2.2.2.1 0 1000000 <;> cases pIn b.2.2.2.2.2.2.2.2.2.1 0 1000000 <;> rfl
theorem countT (n : Int) : impl_isCount n = some (pIn n 0 1000000) := by unfold impl_isCount; rw [inT, Option.bind_some]
theorem bridgeT {b : Bridge} (h : BWf b) : impl_BridgeOk b = some (pBridge b) := by
  unfold impl_BridgeOk pBridge pCounts
  rw [ports_loop h, Option.bind_some]
  cases (List.range b.2.2.1.length).any (bPt b.2.2.1) with
  | true => rfl
  | false =>
    simp only [cond_false, Sum.elim_inl, inT, fdbT h.f, vtabT (v := (b.2.2.2.2.1, b.2.2.2.2.2.1)) _ h.v h.q, countT, Option.bind_some]
    cases pIn b.1 1 99 <;> cases decide ((b.2.1.length : Int) > 10) <;> cases pIn (b.2.2.1.length : Int) 1 6 <;> cases pFdb b.2.2.2.1 <;> cases pVtab (b.2.2.2.2.1, b.2.2.2.2.2.1) (b.2.2.1.length : Int) <;>
      cases pIn b.2.2.2.2.2.2.1 0 1000000 <;> cases pIn b.2.2.2.2.2.2.2.1 0 1000000 <;> cases pIn b.2.2.2.2.2.2.2.2.1 0 1000000 <;> cases pIn b.2.2.2.2.2.2.2.2.2.1 0 1000000 <;> rfl
theorem bridgeS {b : Bridge} (h : BWf b) : spec_BridgeOk b = some (pBridge b) := by
  unfold spec_BridgeOk pBridge
  rw [ports_loopS h, Option.bind_some]
  cases (List.range b.2.2.1.length).any (bPt b.2.2.1) with
  | true => rfl
  | false =>
    have e : decide ((b.2.1.length : Int) ≤ 10) = !(decide ((b.2.1.length : Int) > 10)) := by
      by_cases hh : (b.2.1.length : Int) > 10
      · rw [decide_eq_true hh, decide_eq_false (by omega)]; rfl
      · rw [decide_eq_false hh, decide_eq_true (by omega)]; rfl
    simp only [cond_false, Sum.elim_inl, inS, fdbS h.f, vtabS (v := (b.2.2.2.2.1, b.2.2.2.2.2.1)) _ h.v h.q h.r, countsS, Option.bind_some, e]
    cases pIn b.1 1 99 <;> cases decide ((b.2.1.length : Int) > 10) <;> cases pIn (b.2.2.1.length : Int) 1 6 <;> cases pFdb b.2.2.2.1 <;> cases pVtab (b.2.2.2.2.1, b.2.2.2.2.2.1) (b.2.2.1.length : Int) <;> cases pCounts b <;> rfl
theorem bridge_same {b : Bridge} (h : BWf b) : spec_BridgeOk b = impl_BridgeOk b := by rw [bridgeS h, bridgeT h]

set_option linter.unusedVariables false
set_option linter.unusedSimpArgs false
/-! ### copies -/
theorem app_nil {α : Type} {ys : List α} (h : ys.length ≤ M) : app [] ys = some ys := by
  unfold app
  rw [if_pos (by show 0 + ys.length ≤ 4294967296; have h' : ys.length ≤ 1048576 := h; omega)]; rfl
theorem copyInts {l : List Int} (h : l.length ≤ M) : impl_copyInts l = some l := by unfold impl_copyInts; rw [app_nil h]; rfl
theorem copyFdb {l : List Fent} (h : l.length ≤ M) : impl_copyFdb l = some l := by unfold impl_copyFdb; rw [app_nil h]; rfl
theorem copyFdbS {l : List Fent} (h : l.length ≤ M) : spec_l8Copy l = some l := by unfold spec_l8Copy; rw [app_nil h]; rfl
theorem copyVtab {v : Vtab} (h : v.1.length ≤ M ∧ v.2.length ≤ M) : impl_copyVtab v = some v := by
  unfold impl_copyVtab; rw [app_nil h.1, Option.bind_some, copyInts h.2]; rfl
theorem copyVtabS {v : Vtab} (h : v.1.length ≤ M ∧ v.2.length ≤ M) : spec_l9Copy v = some v := by
  unfold spec_l9Copy; rw [app_nil h.1, Option.bind_some, app_nil h.2]; rfl
theorem copyBridge {b : Bridge} (h : BLe M b) : impl_copyBridge b = some b := by
  obtain ⟨h1, h2, h3, h4, h5⟩ := h
  unfold impl_copyBridge
  rw [app_nil h2, Option.bind_some, copyFdb h3, Option.bind_some, copyVtab ⟨h4, h5⟩]; rfl
theorem copyBridgeS {b : Bridge} (h : BLe M b) : spec_l11Copy b = some b := by
  obtain ⟨h1, h2, h3, h4, h5⟩ := h
  unfold spec_l11Copy
  rw [app_nil h2, Option.bind_some, copyFdbS h3, Option.bind_some, copyVtabS ⟨h4, h5⟩]; rfl
/-! ### what an argument is -/
theorem bridge_wf {b : Bridge} (h : Cs.wf cBridge b) : BLe maxLen b := by
  simp only [cBridge, Cs.wf, CT.wf] at h
  obtain ⟨_, h1, h2, h3, h4, h5, _⟩ := h
  exact ⟨h1, h2.1, h3.1, h4.1, h5.1⟩
theorem bridge_bwf {b : Bridge} (h : Cs.wf cBridge b) (hl : BLe M b) : BWf b := by
  obtain ⟨_, l2, l3, l4, l5⟩ := hl
  have hM : M < 9223372036854775807 := by decide
  refine ⟨by omega, by omega, by omega, by omega, fun r hr => ?_⟩
  simp only [cBridge, Cs.wf, CT.wf] at h
  obtain ⟨_, _, _, _, h4, _⟩ := h
  have := (h4.2 r hr).2.2
  exact this
theorem bind_wf {x : Bind} (h : Cs.wf cBind x) : XLe maxLen x := by
  simp only [cBind, Cs.wf, CT.wf] at h
  exact ⟨h.1.1, h.2.2.2.1, h.2.2.2.2.1⟩
theorem job_wf {j : Job} (h : Cs.wf cJob j) : JLe maxLen j := by
  simp only [cJob, Cs.wf, CT.wf] at h
  obtain ⟨_, h1, _, _, _, _, _, h2, _, h3, h4, h5, h6, h7, _⟩ := h
  refine ⟨h1.1, ⟨h2.1, fun x hx => bind_wf ?_⟩, ⟨h3, h4.1, h5.1, h6.1, h7.1⟩⟩
  have := h2.2 x hx
  simpa only [cBind, Cs.wf, CT.wf] using this
theorem agent_wf {a : Agent} (h : Cs.wf cAgent a) : ALe maxLen a := by
  simp only [cAgent, Cs.wf, CT.wf] at h
  obtain ⟨_, h1, h2, h3, h4, h5, _, _, _, _, _, h6, h7, _⟩ := h
  refine ⟨⟨h1, h2.1, h3.1, h4.1, h5.1⟩, h6, h7.1, fun x hx => job_wf ?_⟩
  have := h7.2 x hx
  simpa only [cJob, Cs.wf, CT.wf] using this

end Go.V.W
