/- The law FnExactNeedOf: part of the proof that for every input it returns true. No condition. -/
import Derived.KernelRfl
import Derived.Test.YtdhcmckfgnommaaGreatNeedOf
import Derived.Test.YtdhcmckfgnommaaGreatV4
namespace Go.V.W
set_option linter.unusedVariables false
set_option linter.unusedSimpArgs false
set_option linter.unusedVariables false
abbrev M : Nat := 1048576
abbrev In (left : Int) : Prop := 0 ≤ left ∧ left ≤ 1048576
theorem In.next {left r : Int} (h : In left) (h1 : 0 ≤ r) (h2 : r ≤ left) : In r := ⟨h1, by have := h.2; omega⟩
theorem le32 {n : Nat} (h : n ≤ M) : n ≤ 4294967295 := Nat.le_trans h (by decide)
/-! ### room -/
theorem szIntS {a : List Int} {left : Int} (hl : In left) (h : a.length ≤ maxLen) : Room left (laws_szIntS a left) (a.length ≤ M) := room_slice hl h
theorem szByteS {a : List Int} {left : Int} (hl : In left) (h : a.length ≤ maxLen) : Room left (laws_szByteS a left) (a.length ≤ M) := room_slice hl h
theorem szPtS {a : List Pt} {left : Int} (hl : In left) (h : a.length ≤ maxLen) : Room left (laws_szPtS a left) (a.length ≤ M) := room_slice hl h
theorem szFentS {a : List Fent} {left : Int} (hl : In left) (h : a.length ≤ maxLen) : Room left (laws_szFentS a left) (a.length ≤ M) := room_slice hl h
theorem szVrowS {a : List Vrow} {left : Int} (hl : In left) (h : a.length ≤ maxLen) : Room left (laws_szVrowS a left) (a.length ≤ M) := room_slice hl h
theorem szVtab {a : Vtab} {left : Int} (hl : In left) (h : a.1.length ≤ maxLen ∧ a.2.length ≤ maxLen) : Room left (laws_szVtab a left) (a.1.length ≤ M ∧ a.2.length ≤ M ∧ True) :=
  room_bind (szVrowS hl h.1) fun r h1 h2 => room_bind (szIntS (hl.next h1 h2) h.2) fun r h1 h2 => room_some h1
/-- The slices of a bridge. -/
def BLe (n : Nat) (b : Bridge) : Prop := b.2.1.length ≤ n ∧ b.2.2.1.length ≤ n ∧ b.2.2.2.1.length ≤ n ∧ b.2.2.2.2.1.length ≤ n ∧ b.2.2.2.2.2.1.length ≤ n
theorem szBridge {b : Bridge} {left : Int} (hl : In left) (h : BLe maxLen b) : Room left (laws_szBridge b left) (BLe M b) := by
  obtain ⟨h1, h2, h3, h4, h5⟩ := h
  refine room_imp (room_let hl h1 fun r k1 k2 => room_bind (szPtS (hl.next k1 k2) h2) fun r' k3 k4 => room_bind (szFentS ((hl.next k1 k2).next k3 k4) h3) fun r'' k5 k6 => room_bind (szVtab (a := (b.2.2.2.2.1, b.2.2.2.2.2.1)) (((hl.next k1 k2).next k3 k4).next k5 k6) ⟨h4, h5⟩) fun r3 k7 k8 => room_some k7) ?_
  rintro ⟨a1, a2, a3, ⟨a4, a5, _⟩, _⟩
  exact ⟨a1, a2, a3, a4, a5⟩
def VLe (n : Nat) (v : Val) : Prop := v.2.2.1.length ≤ n ∧ v.2.2.2.length ≤ n
theorem szVal {v : Val} {left : Int} (hl : In left) (h : VLe maxLen v) : Room left (laws_szVal v left) (VLe M v) :=
  room_imp (room_let hl h.1 fun r k1 k2 => room_bind (szIntS (hl.next k1 k2) h.2) fun r' k3 k4 => room_some k3) fun ⟨a, b, _⟩ => ⟨a, b⟩
def XLe (n : Nat) (x : Bind) : Prop := x.1.length ≤ n ∧ VLe n x.2
theorem szBind {x : Bind} {left : Int} (hl : In left) (h : XLe maxLen x) : Room left (laws_szBind x left) (XLe M x) :=
  room_imp (room_bind (szIntS hl h.1) fun r k1 k2 => room_bind (szVal (hl.next k1 k2) h.2) fun r' k3 k4 => room_some k3) fun ⟨a, b, _⟩ => ⟨a, b⟩
def XsLe (n : Nat) (l : List Bind) : Prop := l.length ≤ n ∧ ∀ x ∈ l, XLe n x
theorem szBindS {l : List Bind} {left : Int} (hl : In left) (h : XsLe maxLen l) : Room left (laws_szBindS l left) (XsLe M l) := by
  have hn : l.length ≤ 9223372036854775807 := h.1
  show Room left (let l1 := w64 (left - (l.length : Int)); cond (decide (l1 < 0)) (some (-1)) ((loop (fun z => laws_szBindS_l0 l z.1 z.2) (l1, 0)).bind (Sum.elim (fun d => some d) (fun r => some r)))) _
  by_cases hle : l.length ≤ M
  · exact room_imp (room_let hl h.1 fun r k1 k2 => room_loop (f := laws_szBind) (Q := XLe M) (fun x hx l' h1 h2 => szBind ⟨h1, h2⟩ (h.2 x hx)) (le32 hle) (hl.next k1 k2)) fun ⟨a, b⟩ => ⟨a, b⟩
  · refine ⟨-1, ?_, .inl rfl⟩
    show cond (decide (w64 (left - (l.length : Int)) < 0)) _ _ = _
    have : M < l.length := by omega
    have hM : (1048576 : Int) < (l.length : Int) := by have : 1048576 < l.length := this; omega
    have := hl.2
    rw [w64_id (by omega) (by omega), dlt (by omega), cond_true]
def PLe (n : Nat) (p : Pdu) : Prop := XsLe n p.2.2.2.2
theorem szPdu {p : Pdu} {left : Int} (hl : In left) (h : PLe maxLen p) : Room left (laws_szPdu p left) (PLe M p) :=
  room_imp (room_bind (szBindS hl h) fun r k1 k2 => room_some k1) fun ⟨a, _⟩ => a
/-- A job's request, and its bridge. -/
def jP (j : Job) : Pdu := (j.2.2.2.1, j.2.2.2.2.1, j.2.2.2.2.2.1, j.2.2.2.2.2.2.1, j.2.2.2.2.2.2.2.1)
def jB (a0 : Job) : Bridge := (a0.2.2.2.2.2.2.2.2.1, a0.2.2.2.2.2.2.2.2.2.1, a0.2.2.2.2.2.2.2.2.2.2.1, a0.2.2.2.2.2.2.2.2.2.2.2.1, a0.2.2.2.2.2.2.2.2.2.2.2.2.1, a0.2.2.2.2.2.2.2.2.2.2.2.2.2.1, a0.2.2.2.2.2.2.2.2.2.2.2.2.2.2.1, a0.2.2.2.2.2.2.2.2.2.2.2.2.2.2.2.1, a0.2.2.2.2.2.2.2.2.2.2.2.2.2.2.2.2.1, a0.2.2.2.2.2.2.2.2.2.2.2.2.2.2.2.2.2.1, a0.2.2.2.2.2.2.2.2.2.2.2.2.2.2.2.2.2.2.1)
def JLe (n : Nat) (j : Job) : Prop := j.2.1.length ≤ n ∧ PLe n (jP j) ∧ BLe n (jB j)
theorem szJob {j : Job} {left : Int} (hl : In left) (h : JLe maxLen j) : Room left (laws_szJob j left) (JLe M j) :=
  room_imp (room_bind (szByteS hl h.1) fun r k1 k2 => room_bind (szPdu (p := jP j) (hl.next k1 k2) h.2.1) fun r' k3 k4 => room_bind (szBridge (b := jB j) ((hl.next k1 k2).next k3 k4) h.2.2) fun r'' k5 k6 => room_some k5) fun ⟨a, b, c, _⟩ => ⟨a, b, c⟩
def JsLe (n : Nat) (l : List Job) : Prop := l.length ≤ n ∧ ∀ x ∈ l, JLe n x
theorem szJobS {l : List Job} {left : Int} (hl : In left) (h : JsLe maxLen l) : Room left (laws_szJobS l left) (JsLe M l) := by
  have hn : l.length ≤ 9223372036854775807 := h.1
  show Room left (let l1 := w64 (left - (l.length : Int)); cond (decide (l1 < 0)) (some (-1)) ((loop (fun z => laws_szJobS_l0 l z.1 z.2) (l1, 0)).bind (Sum.elim (fun d => some d) (fun r => some r)))) _
  by_cases hle : l.length ≤ M
  · exact room_imp (room_let hl h.1 fun r k1 k2 => room_loop (f := laws_szJob) (Q := JLe M) (fun x hx l' h1 h2 => szJob ⟨h1, h2⟩ (h.2 x hx)) (le32 hle) (hl.next k1 k2)) fun ⟨a, b⟩ => ⟨a, b⟩
  · refine ⟨-1, ?_, .inl rfl⟩
    show cond (decide (w64 (left - (l.length : Int)) < 0)) _ _ = _
    have : M < l.length := by omega
    have hM : (1048576 : Int) < (l.length : Int) := by have : 1048576 < l.length := this; omega
    have := hl.2
    rw [w64_id (by omega) (by omega), dlt (by omega), cond_true]
def aB (a0 : Agent) : Bridge := (a0.1, a0.2.1, a0.2.2.1, a0.2.2.2.1, a0.2.2.2.2.1, a0.2.2.2.2.2.1, a0.2.2.2.2.2.2.1, a0.2.2.2.2.2.2.2.1, a0.2.2.2.2.2.2.2.2.1, a0.2.2.2.2.2.2.2.2.2.1, a0.2.2.2.2.2.2.2.2.2.2.1)
def ALe (n : Nat) (a : Agent) : Prop := BLe n (aB a) ∧ a.2.2.2.2.2.2.2.2.2.2.2.1.length ≤ n ∧ JsLe n a.2.2.2.2.2.2.2.2.2.2.2.2.1
theorem szAgent {a : Agent} {left : Int} (hl : In left) (h : ALe maxLen a) : Room left (laws_szAgent a left) (ALe M a) :=
  room_imp (room_bind (szBridge (b := aB a) hl h.1) fun r k1 k2 => room_let (hl.next k1 k2) h.2.1 fun r' k3 k4 => room_bind (szJobS ((hl.next k1 k2).next k3 k4) h.2.2) fun r'' k5 k6 => room_some k5) fun ⟨a, b, c, _⟩ => ⟨a, b, c⟩
/-! ### copies -/
theorem toIntS {a : List Int} (h : a.length ≤ M) : laws_toIntS a = some a := toS_of (le32 h) (to_loop' (le32 h) 0)
theorem toByteS {a : List Int} (h : a.length ≤ M) : laws_toByteS a = some a := toS_of (le32 h) (to_loop' (le32 h) 0)
theorem toPtS {a : List Pt} (h : a.length ≤ M) : laws_toPtS a = some a := toS_of (le32 h) (to_loop (f := laws_toPt) (fun _ _ => rfl) (le32 h) _)
theorem toFentS {a : List Fent} (h : a.length ≤ M) : laws_toFentS a = some a := toS_of (le32 h) (to_loop (f := laws_toFent) (fun _ _ => rfl) (le32 h) _)
theorem toVrowS {a : List Vrow} (h : a.length ≤ M) : laws_toVrowS a = some a := toS_of (le32 h) (to_loop (f := laws_toVrow) (fun _ _ => rfl) (le32 h) _)
theorem toVtab {a : Vtab} (h : a.1.length ≤ M ∧ a.2.length ≤ M) : laws_toVtab a = some a := by
  unfold laws_toVtab
  rw [toVrowS h.1, Option.bind_some, toIntS h.2, Option.bind_some]
theorem toBridge {b : Bridge} (h : BLe M b) : laws_toBridge b = some b := by
  obtain ⟨h1, h2, h3, h4, h5⟩ := h
  unfold laws_toBridge
  rw [toPtS h2, Option.bind_some, toFentS h3, Option.bind_some, toVtab ⟨h4, h5⟩, Option.bind_some]
theorem toVal {v : Val} (h : VLe M v) : laws_toVal v = some v := by
  unfold laws_toVal
  rw [toIntS h.2, Option.bind_some]
theorem toBind {x : Bind} (h : XLe M x) : laws_toBind x = some x := by
  unfold laws_toBind
  rw [toIntS h.1, Option.bind_some, toVal h.2, Option.bind_some]
theorem toBindS {l : List Bind} (h : XsLe M l) : laws_toBindS l = some l := toS_of (le32 h.1) (to_loop (f := laws_toBind) (fun x hx => toBind (h.2 x hx)) (le32 h.1) _)
theorem toPdu {p : Pdu} (h : PLe M p) : laws_toPdu p = some p := by
  unfold laws_toPdu
  rw [toBindS h, Option.bind_some]
theorem toJob {j : Job} (h : JLe M j) : laws_toJob j = some j := by
  unfold laws_toJob
  rw [toByteS h.1, Option.bind_some, show laws_toPdu (j.2.2.2.1, j.2.2.2.2.1, j.2.2.2.2.2.1, j.2.2.2.2.2.2.1, j.2.2.2.2.2.2.2.1) = some (jP j) from toPdu h.2.1, Option.bind_some]
  have := toBridge h.2.2
  unfold jB at this
  rw [this, Option.bind_some]
  rfl
theorem toJobS {l : List Job} (h : JsLe M l) : laws_toJobS l = some l := toS_of (le32 h.1) (to_loop (f := laws_toJob) (fun x hx => toJob (h.2 x hx)) (le32 h.1) _)
theorem toAgent {a : Agent} (h : ALe M a) : laws_toAgent a = some a := by
  unfold laws_toAgent
  have := toBridge h.1
  unfold aB at this
  rw [this, Option.bind_some, toJobS h.2.2, Option.bind_some]
/-! ### the same -/
theorem eqVec (v : Vec) : laws_eqVec v v = some true := by unfold laws_eqVec; simp
theorem eqPt (v : Pt) : laws_eqPt v v = some true := by unfold laws_eqPt; simp [eqVec]
theorem eqFent (v : Fent) : laws_eqFent v v = some true := by unfold laws_eqFent; simp
theorem eqVrow (v : Vrow) : laws_eqVrow v v = some true := by unfold laws_eqVrow; simp
theorem eqIntS {a : List Int} (h : a.length ≤ M) : laws_eqIntS a a = some true := eqS_of (eq_loop' (le32 h))
theorem eqByteS {a : List Int} (h : a.length ≤ M) : laws_eqByteS a a = some true := eqS_of (eq_loop' (le32 h))
theorem eqPtS {a : List Pt} (h : a.length ≤ M) : laws_eqPtS a a = some true := eqS_of (eq_loop (g := laws_eqPt) (fun x _ => eqPt x) (le32 h))
theorem eqFentS {a : List Fent} (h : a.length ≤ M) : laws_eqFentS a a = some true := eqS_of (eq_loop (g := laws_eqFent) (fun x _ => eqFent x) (le32 h))
theorem eqVrowS {a : List Vrow} (h : a.length ≤ M) : laws_eqVrowS a a = some true := eqS_of (eq_loop (g := laws_eqVrow) (fun x _ => eqVrow x) (le32 h))
theorem eqVtab {a : Vtab} (h : a.1.length ≤ M ∧ a.2.length ≤ M) : laws_eqVtab a a = some true := by
  unfold laws_eqVtab; simp [eqVrowS h.1, eqIntS h.2]
theorem eqBridge {b : Bridge} (h : BLe M b) : laws_eqBridge b b = some true := by
  obtain ⟨h1, h2, h3, h4, h5⟩ := h
  unfold laws_eqBridge
  simp [eqPtS h2, eqFentS h3, eqVtab (a := (b.2.2.2.2.1, b.2.2.2.2.2.1)) ⟨h4, h5⟩]
theorem eqVal {v : Val} (h : VLe M v) : laws_eqVal v v = some true := by
  unfold laws_eqVal; simp [eqIntS h.2]
theorem eqBind {x : Bind} (h : XLe M x) : laws_eqBind x x = some true := by
  unfold laws_eqBind; simp [eqIntS h.1, eqVal h.2]
theorem eqBindS {l : List Bind} (h : XsLe M l) : laws_eqBindS l l = some true := eqS_of (eq_loop (g := laws_eqBind) (fun x hx => eqBind (h.2 x hx)) (le32 h.1))
theorem eqPdu {p : Pdu} (h : PLe M p) : laws_eqPdu p p = some true := by
  unfold laws_eqPdu; simp [eqBindS (l := p.2.2.2.2) h]
theorem eqJob {j : Job} (h : JLe M j) : laws_eqJob j j = some true := by
  have h2 := eqPdu h.2.1
  have h3 := eqBridge h.2.2
  unfold jP at h2
  unfold jB at h3
  unfold laws_eqJob
  simp [eqByteS h.1, h2, h3]
theorem eqJobS {l : List Job} (h : JsLe M l) : laws_eqJobS l l = some true := eqS_of (eq_loop (g := laws_eqJob) (fun x hx => eqJob (h.2 x hx)) (le32 h.1))
theorem eqAgent {a : Agent} (h : ALe M a) : laws_eqAgent a a = some true := by
  have h1 := eqBridge h.1
  unfold aB at h1
  unfold laws_eqAgent
  simp [h1, eqJobS h.2.2]

set_option linter.unusedVariables false
set_option linter.unusedSimpArgs false
/-- The same loop. -/
theorem loop_congr {α β : Type} {f g : α → Option (α ⊕ β)} (Inv : α → Prop) (h : ∀ x, Inv x → f x = g x) (hi : ∀ x y, Inv x → f x = some (.inl y) → Inv y) {x : α} (h0 : Inv x) : loop f x = loop g x := by
  have key : ∀ k x, Inv x → iter f k x = iter g k x := by
    intro k
    induction k with
    | zero => intro x _; rfl
    | succ k ih =>
      intro x hx
      rw [iter_succ, iter_succ, ← h x hx]
      cases hf : f x with
      | none => rfl
      | some v => cases v with
        | inl y => exact ih y (hi x y hx hf)
        | inr b => rfl
  have hex : (∃ k, (iter f k x).isSome) ↔ ∃ k, (iter g k x).isSome := by
    constructor <;> rintro ⟨k, hk⟩ <;> exact ⟨k, by first | rwa [← key k x h0] | rwa [key k x h0]⟩
  by_cases hc : ∃ k, (iter f k x).isSome
  · obtain ⟨k, hk⟩ := hc
    cases hv : iter f k x with
    | none => rw [hv] at hk; cases hk
    | some b => rw [loop_of hv, loop_of ((key k x h0) ▸ hv)]
  · have hc' : ¬ ∃ k, (iter g k x).isSome := fun h => hc (hex.2 h)
    unfold loop
    rw [dif_neg hc, dif_neg hc']
theorem loop_ext {α β : Type} {f g : α → Option (α ⊕ β)} (h : ∀ x, f x = g x) (x : α) : loop f x = loop g x := by rw [funext h]
def pIn (x a b : Int) : Bool := decide (x ≥ a) && decide (x ≤ b)
theorem inT (x a b : Int) : impl_in x a b = some (pIn x a b) := by
  unfold impl_in pIn
  cases decide (x ≥ a) <;> rfl
theorem inS (x a b : Int) : spec_l1In x a b = some (pIn x a b) := inT x a b
def pVec (v : Vec) : Bool := pIn v.1 1 99 && (pIn v.2.1 0 100000 && (pIn v.2.2.1 0 10 && (pIn v.2.2.2.1 1 99 && pIn v.2.2.2.2 0 7)))
theorem vecT (v : Vec) : impl_VecOk v = some (pVec v) := by
  unfold impl_VecOk pVec
  simp only [inT, Option.bind_some]
  cases pIn v.1 1 99 <;> cases pIn v.2.1 0 100000 <;> cases pIn v.2.2.1 0 10 <;> cases pIn v.2.2.2.1 1 99 <;> rfl
theorem vecS : spec_VecOk = impl_VecOk := rfl
def pPt (p : Pt) : Bool := pIn p.2.1 1 1000 && (!(p.2.2.1 && !p.1) && (cond p.2.2.1 (pVec p.2.2.2) (p.2.2.2.1 == 0 && (p.2.2.2.2.1 == 0 && (p.2.2.2.2.2.1 == 0 && (p.2.2.2.2.2.2.1 == 0 && (p.2.2.2.2.2.2.2 == 0)))))))
theorem ptT (p : Pt) : impl_PtOk p = some (pPt p) := by
  obtain ⟨up, cost, heard, v⟩ := p
  unfold impl_PtOk pPt
  simp only [inT, vecT, Option.bind_some]
  cases pIn cost 1 1000 <;> cases up <;> cases heard <;> rfl
theorem ptS (p : Pt) : spec_PtOk p = some (pPt p) := by
  obtain ⟨up, cost, heard, v⟩ := p
  unfold spec_PtOk pPt
  simp only [inS, vecS, vecT, Option.bind_some]
  cases pIn cost 1 1000 <;> cases up <;> cases heard <;> rfl
/-! ### a loop that asks of each -/
theorem all_loop {n : Nat} {c : Int → Option Bool} {b : Nat → Bool} (hn : n < 9223372036854775807) (hc : ∀ k, k < n → c (k : Int) = some (b k)) :
    loop (fun i : Int => cond (decide (i < (n : Int))) ((c i).bind fun t => cond t (some (.inr (.inr false))) (some (.inl (w64 (i + 1))))) (some (.inr (.inl ())))) 0 = some (cond ((List.range n).any b) (Sum.inr false) (Sum.inl ()) : Unit ⊕ Bool) := by
  obtain ⟨v, h1, h2⟩ := loop_inv (β := Unit ⊕ Bool) (step := fun i : Int => cond (decide (i < (n : Int))) ((c i).bind fun t => cond t (some (.inr (.inr false))) (some (.inl (w64 (i + 1))))) (some (.inr (.inl ()))))
    (fun k i => i = (k : Int) ∧ (List.range k).any b = false) n (fun v => v = cond ((List.range n).any b) (Sum.inr false) (Sum.inl ()))
    (fun k i hk ⟨e, ha⟩ => by
      subst e
      have hs : (cond (decide ((k : Int) < (n : Int))) ((c (k : Int)).bind fun t => cond t (some (.inr (.inr false))) (some (.inl (w64 ((k : Int) + 1))))) (some (.inr (.inl ()))) : Option (Int ⊕ (Unit ⊕ Bool))) = cond (b k) (some (.inr (.inr false))) (some (.inl ((k + 1 : Nat) : Int))) := by
        rw [dlt (by omega), cond_true, hc k hk, Option.bind_some, w64_nat (by omega)]
      cases hb : b k with
      | true =>
        refine .inr ⟨.inr false, by rw [hs, hb]; rfl, ?_⟩
        have : (List.range n).any b = true := List.any_eq_true.2 ⟨k, List.mem_range.2 hk, hb⟩
        rw [this]; rfl
      | false =>
        refine .inl ⟨_, by rw [hs, hb]; rfl, rfl, ?_⟩
        rw [List.range_succ, List.any_append, ha]; simp [hb])
    (fun i ⟨e, ha⟩ => by
      subst e
      exact ⟨.inl (), by rw [dnlt (by omega), cond_false], by rw [ha]; rfl⟩) (x := 0) ⟨rfl, rfl⟩
  rw [h1, h2]
/-! ### the table of addresses -/
def pFent (e : Fent) : Bool := pIn e.1 1 99 && (pIn e.2.1 1 9999 && (pIn e.2.2.1 0 7 && (pIn e.2.2.2.1 0 4 && (!e.2.2.2.2 || e.2.2.2.1 == 0))))
theorem fentT (e : Fent) : impl_fentOk e = some (pFent e) := by
  unfold impl_fentOk pFent
  simp only [inT, Option.bind_some]
  cases pIn e.1 1 99 <;> cases pIn e.2.1 1 9999 <;> cases pIn e.2.2.1 0 7 <;> cases pIn e.2.2.2.1 0 4 <;> cases e.2.2.2.2 <;> rfl
theorem fentS : spec_l8Ent = impl_fentOk := rfl
def pBehind (e : Fent) (tag mac : Int) : Bool := decide (e.1 > tag) || (e.1 == tag && decide (e.2.1 > mac))
theorem behindT (e : Fent) (tag mac : Int) : impl_behind e tag mac = some (pBehind e tag mac) := by
  unfold impl_behind pBehind
  cases decide (e.1 > tag) <;> cases (e.1 == tag) <;> rfl
theorem aheadS (p e : Fent) : spec_l8Ahead p e.1 e.2.1 = some (pBehind e p.1 p.2.1) := by
  unfold spec_l8Ahead pBehind
  by_cases h : p.1 = e.1
  · simp [h]
  · have h' : ¬ e.1 = p.1 := fun k => h k.symm
    have e1 : (p.1 != e.1) = true := by simpa using h
    have e2 : (e.1 == p.1) = false := by simpa using h'
    rw [e1, e2, cond_true, Bool.false_and, Bool.or_false]
def bFent (l : List Fent) (k : Nat) : Bool := match l[k]? with
  | some e => !(pFent e) || (decide (0 < k) && (match l[k - 1]? with | some p => !(pBehind e p.1 p.2.1) | none => false))
  | none => false
def pFdb (l : List Fent) : Bool := !((List.range l.length).any (bFent l)) && decide ((l.length : Int) ≤ 12)
theorem prev_at {α : Type} {l : List α} {k : Nat} (h : k < l.length) (hk : 0 < k) (hn : l.length < 9223372036854775807) : at? l (w64 ((k : Int) - 1)) = some l[k - 1] := by
  rw [w64_id (by omega) (by omega), show (k : Int) - 1 = ((k - 1 : Nat) : Int) by omega, at_nat (by omega)]
theorem fdbT {l : List Fent} (hn : l.length < 9223372036854775807) : impl_FdbOk l = some (pFdb l) := by
  unfold impl_FdbOk pFdb
  have h := all_loop (n := l.length) (c := fun i => (at? l i).bind fun x10 => (impl_fentOk x10).bind fun t13 => (cond (!t13) (some true) ((cond (decide (i > 0)) ((at? l (w64 (i - 1))).bind fun x23 => (at? l (w64 (i - 1))).bind fun x29 => (impl_behind x10 x23.1 x29.2.1).bind fun t32 => some (!t32)) (some false)).bind fun t34 => some t34)).bind fun t => some t) (b := bFent l) hn (fun k hk => by
    simp only [at_nat hk, Option.bind_some, fentT, bFent, List.getElem?_eq_getElem hk]
    cases pFent l[k] with
    | false => rfl
    | true =>
      by_cases h0 : 0 < k
      · have hd : decide ((k : Int) > 0) = true := decide_eq_true (by omega)
        simp only [hd, prev_at hk h0 hn, Option.bind_some, behindT, decide_eq_true h0, List.getElem?_eq_getElem (show k - 1 < l.length by omega)]
        rfl
      · have hd : decide ((k : Int) > 0) = false := decide_eq_false (by omega)
        simp only [hd, decide_eq_false h0]
        rfl)
  have e : (loop (fun z => impl_FdbOk_l0 l z) 0) = some (cond ((List.range l.length).any (bFent l)) (Sum.inr false) (Sum.inl ())) := by
    rw [← h]
    refine loop_ext (fun i => ?_) 0
    unfold impl_FdbOk_l0
    simp only [Option.bind_assoc, Option.bind_some]
  rw [e, Option.bind_some]
  cases (List.range l.length).any (bFent l) <;> rfl
theorem fdbS {l : List Fent} (hn : l.length < 9223372036854775807) : spec_FdbOk l = some (pFdb l) := by
  unfold spec_FdbOk pFdb
  have h := all_loop (n := l.length) (c := fun i => (at? l i).bind fun x12 => (spec_l8Ent x12).bind fun t14 => (cond (!t14) (some true) ((cond (decide (i > 0)) ((at? l (w64 (i - 1))).bind fun x23 => (at? l i).bind fun x27 => (at? l i).bind fun x32 => (spec_l8Ahead x23 x27.1 x32.2.1).bind fun t35 => some (!t35)) (some false)).bind fun t37 => some t37)).bind fun t => some t) (b := bFent l) hn (fun k hk => by
    simp only [at_nat hk, Option.bind_some, fentS, fentT, bFent, List.getElem?_eq_getElem hk]
    cases pFent l[k] with
    | false => rfl
    | true =>
      by_cases h0 : 0 < k
      · have hd : decide ((k : Int) > 0) = true := decide_eq_true (by omega)
        simp only [hd, prev_at hk h0 hn, Option.bind_some, aheadS, decide_eq_true h0, List.getElem?_eq_getElem (show k - 1 < l.length by omega)]
        rfl
      · have hd : decide ((k : Int) > 0) = false := decide_eq_false (by omega)
        simp only [hd, decide_eq_false h0]
        rfl)
  have e : (loop (fun z => spec_FdbOk_l0 l z) 0) = some (cond ((List.range l.length).any (bFent l)) (Sum.inr false) (Sum.inl ())) := by
    rw [← h]
    refine loop_ext (fun i => ?_) 0
    unfold spec_FdbOk_l0
    simp only [Option.bind_assoc, Option.bind_some]
  rw [e, Option.bind_some]
  cases (List.range l.length).any (bFent l) <;> rfl

set_option linter.unusedVariables false
set_option linter.unusedSimpArgs false
/-! ### networks -/
theorem rowAtS : spec_RowAt = impl_RowAt := rfl
theorem rowAtT {v : Vtab} (hn : v.1.length < 9223372036854775807) (id : Int) : ∃ r, impl_RowAt v id = some r := by
  unfold impl_RowAt
  obtain ⟨b, h1, _⟩ := loop_inv (β := Unit ⊕ Int) (step := fun z => impl_RowAt_l0 v id z) (fun k i => i = (k : Int)) v.1.length (fun _ => True)
    (fun k i hk h => by
      subst h
      unfold impl_RowAt_l0
      rw [dlt (by omega), cond_true, at_nat hk, Option.bind_some]
      cases (v.1[k].1 == id) with
      | true => exact .inr ⟨_, rfl, trivial⟩
      | false => exact .inl ⟨_, rfl, w64_nat (by omega)⟩)
    (fun i h => by
      subst h
      unfold impl_RowAt_l0
      rw [dnlt (by omega)]
      exact ⟨_, rfl, trivial⟩) (x := 0) rfl
  rw [h1, Option.bind_some]
  cases b with
  | inl _ => exact ⟨_, rfl⟩
  | inr r => exact ⟨r, rfl⟩
def pTop (i : Int) : Int := (2 : Int) ^ i.toNat - 1
theorem range6 {i : Int} (h : pIn i 1 6 = true) : i = 1 ∨ i = 2 ∨ i = 3 ∨ i = 4 ∨ i = 5 ∨ i = 6 := by
  unfold pIn at h
  simp only [Bool.and_eq_true, decide_eq_true_eq] at h
  omega
theorem allPortsT {i : Int} (h : pIn i 1 6 = true) : impl_allPorts i = some (pTop i) := by
  rcases range6 h with rfl | rfl | rfl | rfl | rfl | rfl <;> rfl
theorem shlS {i : Int} (h : pIn i 1 6 = true) : ∃ t, shl .i64 1 (IntKind.u64.wrap i) = some t ∧ w64 (t - 1) = pTop i := by
  rcases range6 h with rfl | rfl | rfl | rfl | rfl | rfl <;> exact ⟨_, rfl, rfl⟩
theorem topLe {i : Int} (h : pIn i 1 6 = true) : 1 ≤ pTop i ∧ pTop i ≤ 63 := by
  rcases range6 h with rfl | rfl | rfl | rfl | rfl | rfl <;> decide
/-! #### bits -/
theorem wrap_toNat (x : BitVec 64) : IntKind.i64.wrap (x.toNat : Int) = x.toInt := by
  have hx := x.isLt
  rw [BitVec.toInt_eq_toNat_cond]
  show (let m := (x.toNat : Int) % 18446744073709551616; if (true && decide (m ≥ 9223372036854775808)) = true then m - 18446744073709551616 else m) = _
  simp only [Bool.true_and, decide_eq_true_eq]
  have h1 : (x.toNat : Int) % 18446744073709551616 = (x.toNat : Int) := by omega
  rw [h1]
  split <;> split <;> omega
theorem ofInt_toInt {b : Int} (h1 : -9223372036854775808 ≤ b) (h2 : b ≤ 9223372036854775807) : (BitVec.ofInt 64 b).toInt = b := by
  rw [BitVec.toInt_ofInt]
  unfold Int.bmod
  simp only
  split <;> omega
theorem bandT (a b : Int) : band .i64 a b = (BitVec.ofInt 64 a &&& BitVec.ofInt 64 b).toInt := wrap_toNat _
theorem bclrT (a b : Int) : bclr .i64 a b = (BitVec.ofInt 64 a &&& ~~~ BitVec.ofInt 64 b).toInt := wrap_toNat _
theorem and_iff (x y : BitVec 64) : x &&& y = x ↔ x &&& ~~~ y = 0 := by
  constructor
  · intro h
    apply BitVec.eq_of_getLsbD_eq
    intro i hi
    have := congrArg (fun z => z.getLsbD i) h
    simp only [BitVec.getLsbD_and] at this
    simp only [BitVec.getLsbD_and, BitVec.getLsbD_not, BitVec.getLsbD_zero, hi, decide_true, Bool.true_and]
    cases hx : x.getLsbD i <;> cases hy : y.getLsbD i <;> simp_all
  · intro h
    apply BitVec.eq_of_getLsbD_eq
    intro i hi
    have := congrArg (fun z => z.getLsbD i) h
    simp only [BitVec.getLsbD_and, BitVec.getLsbD_not, BitVec.getLsbD_zero, hi, decide_true, Bool.true_and] at this
    simp only [BitVec.getLsbD_and]
    cases hx : x.getLsbD i <;> cases hy : y.getLsbD i <;> simp_all
/-- What is held back is among what is meant, said in two ways. -/
theorem bits_same {b m : Int} (h1 : -9223372036854775808 ≤ b) (h2 : b ≤ 9223372036854775807) : (band .i64 b m != b) = (bclr .i64 b m != 0) := by
  rw [bandT, bclrT]
  have e : ((BitVec.ofInt 64 b &&& BitVec.ofInt 64 m).toInt = b) ↔ ((BitVec.ofInt 64 b &&& ~~~ BitVec.ofInt 64 m).toInt = 0) := by
    constructor
    · intro h
      have : BitVec.ofInt 64 b &&& BitVec.ofInt 64 m = BitVec.ofInt 64 b := BitVec.eq_of_toInt_eq (by rw [h, ofInt_toInt h1 h2])
      rw [(and_iff _ _).1 this]; rfl
    · intro h
      have : BitVec.ofInt 64 b &&& ~~~ BitVec.ofInt 64 m = 0 := BitVec.eq_of_toInt_eq (by rw [h]; rfl)
      rw [(and_iff _ _).2 this, ofInt_toInt h1 h2]
  by_cases h : (BitVec.ofInt 64 b &&& BitVec.ofInt 64 m).toInt = b
  · have h' := e.1 h
    simp [h, h']
  · have h' : ¬ (BitVec.ofInt 64 b &&& ~~~ BitVec.ofInt 64 m).toInt = 0 := fun k => h (e.2 k)
    rw [bne_iff_ne.2 h, bne_iff_ne.2 h']
theorem bits_in {b m t : Int} (h1 : -9223372036854775808 ≤ b) (h2 : b ≤ 9223372036854775807) (hm : pIn m 0 t = true) (ht : t ≤ 63) (h : (band .i64 b m != b) = false) : pIn b 0 t = true := by
  unfold pIn at hm ⊢
  simp only [Bool.and_eq_true, decide_eq_true_eq] at hm ⊢
  have h : band .i64 b m = b := by simpa using h
  rw [bandT] at h
  have e : BitVec.ofInt 64 b &&& BitVec.ofInt 64 m = BitVec.ofInt 64 b := BitVec.eq_of_toInt_eq (by rw [h, ofInt_toInt h1 h2])
  have hM : (BitVec.ofInt 64 m).toNat = m.toNat := by
    rw [BitVec.toNat_ofInt]
    omega
  have hle : (BitVec.ofInt 64 b).toNat ≤ m.toNat := by
    rw [← e, BitVec.toNat_and, hM]; exact Nat.and_le_right
  have hb : (BitVec.ofInt 64 b).toInt = ((BitVec.ofInt 64 b).toNat : Int) := by
    rw [BitVec.toInt_eq_toNat_cond]; split <;> omega
  rw [ofInt_toInt h1 h2] at hb
  omega
def bRow (v : Vtab) (i : Int) (k : Nat) : Bool := match v.1[k]? with
  | some r => !(pIn r.1 1 99) || ((decide (0 < k) && (match v.1[k - 1]? with | some p => decide (p.1 ≥ r.1) | none => false)) || (!(pIn r.2.1 0 (pTop i)) || (bclr .i64 r.2.2 r.2.1 != 0)))
  | none => false
noncomputable def bPvid (v : Vtab) (k : Nat) : Bool := match v.2[k]? with
  | some x => (match impl_RowAt v x with | some t => decide (t < 0) | none => false)
  | none => false
noncomputable def pVtab (v : Vtab) (i : Int) : Bool := !(!(pIn i 1 6) || ((v.2.length : Int) != i || decide ((v.1.length : Int) > 6))) && (!((List.range v.1.length).any (bRow v i)) && !((List.range v.2.length).any (bPvid v)))
theorem rows_loop {v : Vtab} {i : Int} (hi : pIn i 1 6 = true) (hn : v.1.length < 9223372036854775807) : loop (fun z => impl_VtabOk_l0 v i z) 0 = some (cond ((List.range v.1.length).any (bRow v i)) (Sum.inr false) (Sum.inl ())) := by
  rw [← all_loop (n := v.1.length) (c := fun t28 => (at? v.1 t28).bind fun x31 =>
    (impl_in x31.1 1 99).bind fun t35 =>
    (cond (!t35) (some true) ((cond (decide (t28 > 0)) ((at? v.1 (w64 (t28 - 1))).bind fun x45 => some (decide (x45.1 ≥ x31.1))) (some false)).bind fun t51 => some t51)).bind fun t52 =>
    (cond t52 (some true) ((impl_allPorts i).bind fun t57 => (impl_in x31.2.1 0 t57).bind fun t58 => some (!t58))).bind fun t60 =>
    (cond t60 (some true) (some ((bclr .i64 x31.2.2 x31.2.1) != 0))).bind fun t => some t) (b := bRow v i) hn (fun k hk => by
      simp only [at_nat hk, Option.bind_some, inT, bRow, List.getElem?_eq_getElem hk, allPortsT hi]
      cases pIn v.1[k].1 1 99 with
      | false => rfl
      | true =>
        by_cases h0 : 0 < k
        · have hd : decide ((k : Int) > 0) = true := decide_eq_true (by omega)
          simp only [hd, prev_at hk h0 hn, Option.bind_some, decide_eq_true h0, List.getElem?_eq_getElem (show k - 1 < v.1.length by omega)]
          cases decide (v.1[k - 1].1 ≥ v.1[k].1) <;> cases pIn v.1[k].2.1 0 (pTop i) <;> rfl
        · have hd : decide ((k : Int) > 0) = false := decide_eq_false (by omega)
          simp only [hd, decide_eq_false h0]
          cases pIn v.1[k].2.1 0 (pTop i) <;> rfl)]
  refine loop_ext (fun i => ?_) 0
  unfold impl_VtabOk_l0
  simp only [Option.bind_assoc, Option.bind_some]
theorem rows_loopS {v : Vtab} {i t : Int} (hi : pIn i 1 6 = true) (ht : w64 (t - 1) = pTop i) (hn : v.1.length < 9223372036854775807) (hw : ∀ r ∈ v.1, -9223372036854775808 ≤ r.2.2 ∧ r.2.2 ≤ 9223372036854775807) : loop (fun z => spec_VtabOk_l0 v t z) 0 = some (cond ((List.range v.1.length).any (bRow v i)) (Sum.inr false) (Sum.inl ())) := by
  rw [← all_loop (n := v.1.length) (c := fun t6 => (at? v.1 t6).bind fun x39 =>
    (spec_l1In x39.1 1 99).bind fun t43 =>
    (cond (!t43) (some true) ((spec_l1In x39.2.1 0 (w64 (t - 1))).bind fun t49 => some (!t49))).bind fun t51 =>
    (cond t51 (some true) ((spec_l1In x39.2.2 0 (w64 (t - 1))).bind fun t56 => some (!t56))).bind fun t58 =>
    (cond t58 (some true) (some ((band .i64 x39.2.2 x39.2.1) != x39.2.2))).bind fun t68 =>
    (cond t68 (some true) ((cond (decide (t6 > 0)) ((at? v.1 (w64 (t6 - 1))).bind fun x77 => some (decide (x77.1 ≥ x39.1))) (some false)).bind fun t83 => some t83)).bind fun t => some t) (b := bRow v i) hn (fun k hk => by
      obtain ⟨w1, w2⟩ := hw _ (List.getElem_mem hk)
      have hs := bits_same (m := v.1[k].2.1) w1 w2
      have hin := bits_in (m := v.1[k].2.1) (t := pTop i) w1 w2
      have ht2 := (topLe hi).2
      simp only [at_nat hk, Option.bind_some, inS, bRow, List.getElem?_eq_getElem hk, ht]
      rw [← hs]
      cases h1 : pIn v.1[k].1 1 99 with
      | false => rfl
      | true =>
        cases h2 : pIn v.1[k].2.1 0 (pTop i) with
        | false =>
          by_cases h0 : 0 < k
          · simp only [decide_eq_true h0, List.getElem?_eq_getElem (show k - 1 < v.1.length by omega)]
            cases decide (v.1[k - 1].1 ≥ v.1[k].1) <;> rfl
          · simp only [decide_eq_false h0]; rfl
        | true =>
          cases h3 : (band .i64 v.1[k].2.2 v.1[k].2.1 != v.1[k].2.2) with
          | true =>
            by_cases h0 : 0 < k
            · simp only [decide_eq_true h0, List.getElem?_eq_getElem (show k - 1 < v.1.length by omega)]
              cases decide (v.1[k - 1].1 ≥ v.1[k].1) <;> cases pIn v.1[k].2.2 0 (pTop i) <;> rfl
            · simp only [decide_eq_false h0]; cases pIn v.1[k].2.2 0 (pTop i) <;> rfl
          | false =>
            have h4 := hin h2 ht2 h3
            rw [h4]
            by_cases h0 : 0 < k
            · have hd : decide ((k : Int) > 0) = true := decide_eq_true (by omega)
              simp only [hd, prev_at hk h0 hn, Option.bind_some, decide_eq_true h0, List.getElem?_eq_getElem (show k - 1 < v.1.length by omega)]
              cases decide (v.1[k - 1].1 ≥ v.1[k].1) <;> rfl
            · have hd : decide ((k : Int) > 0) = false := decide_eq_false (by omega)
              simp only [hd, decide_eq_false h0]
              rfl)]
  refine loop_ext (fun i => ?_) 0
  unfold spec_VtabOk_l0
  simp only [Option.bind_assoc, Option.bind_some]
theorem pvid_loop {v : Vtab} (hn : v.1.length < 9223372036854775807) (hn2 : v.2.length < 9223372036854775807) : loop (fun z => impl_VtabOk_l2 v z) 0 = some (cond ((List.range v.2.length).any (bPvid v)) (Sum.inr false) (Sum.inl ())) := by
  rw [← all_loop (n := v.2.length) (c := fun t73 => (at? v.2 t73).bind fun x75 => (impl_RowAt v x75).bind fun t79 => some (decide (t79 < 0))) (b := bPvid v) hn2 (fun k hk => by
    obtain ⟨r, hr⟩ := rowAtT hn v.2[k]
    simp only [at_nat hk, Option.bind_some, bPvid, List.getElem?_eq_getElem hk, hr])]
  refine loop_ext (fun i => ?_) 0
  unfold impl_VtabOk_l2
  simp only [Option.bind_assoc, Option.bind_some]
theorem pvidS : spec_VtabOk_l2 = impl_VtabOk_l2 := rfl
theorem vtabT {v : Vtab} (i : Int) (hn : v.1.length < 9223372036854775807) (hn2 : v.2.length < 9223372036854775807) : impl_VtabOk v i = some (pVtab v i) := by
  unfold impl_VtabOk pVtab
  simp only [inT, Option.bind_some]
  cases hi : pIn i 1 6 with
  | false => rfl
  | true =>
    rw [rows_loop hi hn, pvid_loop hn hn2]
    cases ((v.2.length : Int) != i) <;> cases decide ((v.1.length : Int) > 6) <;> cases (List.range v.1.length).any (bRow v i) <;> cases (List.range v.2.length).any (bPvid v) <;> rfl
theorem vtabS {v : Vtab} (i : Int) (hn : v.1.length < 9223372036854775807) (hn2 : v.2.length < 9223372036854775807) (hw : ∀ r ∈ v.1, -9223372036854775808 ≤ r.2.2 ∧ r.2.2 ≤ 9223372036854775807) : spec_VtabOk v i = some (pVtab v i) := by
  unfold spec_VtabOk pVtab
  simp only [inS, Option.bind_some, pvidS]
  cases hi : pIn i 1 6 with
  | false => rfl
  | true =>
    obtain ⟨t, h1, h2⟩ := shlS hi
    rw [h1, Option.bind_some, rows_loopS hi h2 hn hw, pvid_loop hn hn2]
    cases ((v.2.length : Int) != i) <;> cases decide ((v.1.length : Int) > 6) <;> cases (List.range v.1.length).any (bRow v i) <;> cases (List.range v.2.length).any (bPvid v) <;> rfl
/-! ### a bridge -/
def bPt (l : List Pt) (k : Nat) : Bool := match l[k]? with | some p => !(pPt p) | none => false
def pCounts (b : Bridge) : Bool := pIn b.2.2.2.2.2.2.1 0 1000000 && (pIn b.2.2.2.2.2.2.2.1 0 1000000 && (pIn b.2.2.2.2.2.2.2.2.1 0 1000000 && (pIn b.2.2.2.2.2.2.2.2.2.1 0 1000000 && pIn b.2.2.2.2.2.2.2.2.2.2 0 1000000)))
noncomputable def pBridge (b : Bridge) : Bool := !((List.range b.2.2.1.length).any (bPt b.2.2.1)) && (pIn b.1 1 99 && (!(decide ((b.2.1.length : Int) > 10)) && (pIn (b.2.2.1.length : Int) 1 6 && (pFdb b.2.2.2.1 && (pVtab (b.2.2.2.2.1, b.2.2.2.2.2.1) (b.2.2.1.length : Int) && pCounts b)))))
/-- A bridge whose slices are no longer than slices are, and whose numbers are. -/
structure BWf (b : Bridge) : Prop where
  p : b.2.2.1.length < 9223372036854775807
  f : b.2.2.2.1.length < 9223372036854775807
  v : b.2.2.2.2.1.length < 9223372036854775807
  q : b.2.2.2.2.2.1.length < 9223372036854775807
  r : ∀ r ∈ b.2.2.2.2.1, -9223372036854775808 ≤ r.2.2 ∧ r.2.2 ≤ 9223372036854775807
theorem ports_loop {b : Bridge} (h : BWf b) : loop (fun z => impl_BridgeOk_l0 b z) 0 = some (cond ((List.range b.2.2.1.length).any (bPt b.2.2.1)) (Sum.inr false) (Sum.inl ())) := by
  rw [← all_loop (n := b.2.2.1.length) (c := fun t8 => (at? b.2.2.1 t8).bind fun x10 => (impl_PtOk x10).bind fun t13 => some (!t13)) (b := bPt b.2.2.1) h.p (fun k hk => by
    simp only [at_nat hk, Option.bind_some, bPt, List.getElem?_eq_getElem hk, ptT])]
  refine loop_ext (fun i => ?_) 0
  unfold impl_BridgeOk_l0
  simp only [Option.bind_assoc, Option.bind_some]
theorem ports_loopS {b : Bridge} (h : BWf b) : loop (fun z => spec_BridgeOk_l0 b z) 0 = some (cond ((List.range b.2.2.1.length).any (bPt b.2.2.1)) (Sum.inr false) (Sum.inl ())) := by
  rw [← all_loop (n := b.2.2.1.length) (c := fun t8 => (at? b.2.2.1 t8).bind fun x10 => (spec_PtOk x10).bind fun t13 => some (!t13)) (b := bPt b.2.2.1) h.p (fun k hk => by
    simp only [at_nat hk, Option.bind_some, bPt, List.getElem?_eq_getElem hk, ptS])]
  refine loop_ext (fun i => ?_) 0
  unfold spec_BridgeOk_l0
  simp only [Option.bind_assoc, Option.bind_some]
theorem countsS (b : Bridge) : spec_l11Counts b = some (pCounts b) := by
  unfold spec_l11Counts pCounts
  simp only [inS, Option.bind_some]
  cases pIn b.2.2.2.2.2.2.1 0 1000000 <;> cases pIn b.2.2.2.2.2.2.2.1 0 1000000 <;> cases pIn b.2.2.2.2.2.2.2.2.1 0 1000000 <;> cases pIn b.2.2.2.2.2.2.2.2.2.1 0 1000000 <;> rfl
theorem countT (n : Int) : impl_isCount n = some (pIn n 0 1000000) := by unfold impl_isCount; rw [inT, Option.bind_some]
theorem bridgeT {b : Bridge} (h : BWf b) : impl_BridgeOk b = some (pBridge b) := by
  unfold impl_BridgeOk pBridge pCounts
  rw [ports_loop h, Option.bind_some]
  cases (List.range b.2.2.1.length).any (bPt b.2.2.1) with
  | true => rfl
  | false =>
    simp only [cond_false, Sum.elim_inl, inT, fdbT h.f, vtabT (v := (b.2.2.2.2.1, b.2.2.2.2.2.1)) _ h.v h.q, countT, Option.bind_some]
    cases pIn b.1 1 99 <;> cases decide ((b.2.1.length : Int) > 10) <;> cases pIn (b.2.2.1.length : Int) 1 6 <;> cases pFdb b.2.2.2.1 <;> cases pVtab (b.2.2.2.2.1, b.2.2.2.2.2.1) (b.2.2.1.length : Int) <;>
      cases pIn b.2.2.2.2.2.2.1 0 1000000 <;> cases pIn b.2.2.2.2.2.2.2.1 0 1000000 <;> cases pIn b.2.2.2.2.2.2.2.2.1 0 1000000 <;> cases pIn b.2.2.2.2.2.2.2.2.2.1 0 1000000 <;> rfl
theorem bridgeS {b : Bridge} (h : BWf b) : spec_BridgeOk b = some (pBridge b) := by
  unfold spec_BridgeOk pBridge
  rw [ports_loopS h, Option.bind_some]
  cases (List.range b.2.2.1.length).any (bPt b.2.2.1) with
  | true => rfl
  | false =>
    have e : decide ((b.2.1.length : Int) ≤ 10) = !(decide ((b.2.1.length : Int) > 10)) := by
      by_cases hh : (b.2.1.length : Int) > 10
      · rw [decide_eq_true hh, decide_eq_false (by omega)]; rfl
      · rw [decide_eq_false hh, decide_eq_true (by omega)]; rfl
    simp only [cond_false, Sum.elim_inl, inS, fdbS h.f, vtabS (v := (b.2.2.2.2.1, b.2.2.2.2.2.1)) _ h.v h.q h.r, countsS, Option.bind_some, e]
    cases pIn b.1 1 99 <;> cases decide ((b.2.1.length : Int) > 10) <;> cases pIn (b.2.2.1.length : Int) 1 6 <;> cases pFdb b.2.2.2.1 <;> cases pVtab (b.2.2.2.2.1, b.2.2.2.2.2.1) (b.2.2.1.length : Int) <;> cases pCounts b <;> rfl
theorem bridge_same {b : Bridge} (h : BWf b) : spec_BridgeOk b = impl_BridgeOk b := by rw [bridgeS h, bridgeT h]

set_option linter.unusedVariables false
set_option linter.unusedSimpArgs false
/-- The first five. -/
def mib5 (b : Bridge) : List Bind := [([1, 3, 1, 1, 1], 4, 0, b.2.1, []), ([1, 3, 1, 1, 2], 2, b.2.2.2.2.2.2.1, [], []), ([1, 3, 1, 1, 3], 2, b.2.2.2.2.2.2.2.1, [], []), ([1, 3, 1, 1, 4], 2, b.2.2.2.2.2.2.2.2.1, [], []), ([1, 3, 1, 1, 5], 2, b.2.2.2.2.2.2.2.2.2.1, [], [])]
set_option linter.unusedVariables false
set_option linter.unusedSimpArgs false
theorem app_nat {α : Type} {xs ys : List α} (h : xs.length + ys.length ≤ 1000) : app xs ys = some (xs ++ ys) := by
  unfold app
  rw [if_pos (Nat.le_trans h (by decide))]
set_option linter.unusedVariables false
set_option linter.unusedSimpArgs false
theorem in_nat {n : Nat} {i : Int} (h : pIn i 0 ((n : Int) - 1) = true) : ∃ k : Nat, k < n ∧ i = (k : Int) := by
  unfold pIn at h
  simp only [Bool.and_eq_true, decide_eq_true_eq] at h
  exact ⟨i.toNat, by omega, by omega⟩
theorem nat_in {n k : Nat} (h : k < n) : pIn (k : Int) 0 ((n : Int) - 1) = true := by
  unfold pIn
  rw [decide_eq_true (by omega), decide_eq_true (by omega)]; rfl
theorem band255 (x : Int) : 0 ≤ band .i64 x 255 ∧ band .i64 x 255 ≤ 255 := by
  rw [bandT]
  have h1 : (BitVec.ofInt 64 x &&& BitVec.ofInt 64 255).toNat ≤ 255 := by
    rw [BitVec.toNat_and]
    exact Nat.le_trans Nat.and_le_right (by decide)
  rw [BitVec.toInt_eq_toNat_cond]
  split <;> omega
theorem rem_pos {a n : Int} (ha : 0 ≤ a) (hn : 1 ≤ n) : ∃ r, rem a n = some r ∧ 0 ≤ r ∧ r < n := by
  unfold rem
  rw [if_neg (by omega)]
  refine ⟨_, rfl, Int.tmod_nonneg _ ha, ?_⟩
  have := Int.tmod_lt_of_pos a (show 0 < n by omega)
  exact this
set_option linter.unusedVariables false
set_option linter.unusedSimpArgs false
/-! ### what is drawn: networks -/
abbrev I64 (x : Int) : Prop := -9223372036854775808 ≤ x ∧ x ≤ 9223372036854775807
structure VT (v : Vtab) (n : Nat) : Prop where
  p : pVtab v (n : Int) = true
  r : ∀ r ∈ v.1, I64 r.2.2
theorem VT.len {v : Vtab} {n : Nat} (h : VT v n) : 1 ≤ n ∧ n ≤ 6 ∧ v.2.length = n ∧ v.1.length ≤ 6 := by
  have hp := h.p
  unfold pVtab pIn at hp
  simp only [Bool.and_eq_true, Bool.not_eq_true', Bool.or_eq_false_iff, Bool.not_eq_false', Bool.and_eq_true, decide_eq_true_eq, decide_eq_false_iff_not, bne_eq_false_iff_eq] at hp
  obtain ⟨⟨h1, h2, h3⟩, _⟩ := hp
  omega
theorem vtS {v : Vtab} (n : Int) (h1 : v.1.length ≤ 1000) (h2 : v.2.length ≤ 1000) (hr : ∀ r ∈ v.1, I64 r.2.2) : spec_VtabOk v n = some (pVtab v n) := vtabS n (by omega) (by omega) hr
theorem okV {v : Vtab} {n : Nat} (hv : VT v n) : spec_VtabOk v (v.2.length : Int) = some true := by
  obtain ⟨l1, l2, l3, l4⟩ := hv.len
  rw [vtS _ (by omega) (by omega) hv.r, l3, hv.p]
theorem rowAtL {v : Vtab} (hn : v.1.length < 9223372036854775807) (id : Int) : ∃ r, spec_RowAt v id = some r ∧ (r = -1 ∨ ∃ k : Nat, k < v.1.length ∧ r = (k : Int)) := by
  rw [rowAtS]
  unfold impl_RowAt
  obtain ⟨b, h1, h2⟩ := loop_inv (β := Unit ⊕ Int) (step := fun z => impl_RowAt_l0 v id z) (fun k i => i = (k : Int)) v.1.length (fun b => ∀ r, b = .inr r → ∃ k : Nat, k < v.1.length ∧ r = (k : Int))
    (fun k i hk h => by
      subst h
      unfold impl_RowAt_l0
      rw [dlt (by omega), cond_true, at_nat hk, Option.bind_some]
      cases (v.1[k].1 == id) with
      | true => exact .inr ⟨_, rfl, fun r hr => ⟨k, hk, by cases hr; rfl⟩⟩
      | false => exact .inl ⟨_, rfl, w64_nat (by omega)⟩)
    (fun i h => by
      subst h
      unfold impl_RowAt_l0
      rw [dnlt (by omega)]
      exact ⟨_, rfl, fun r hr => by cases hr⟩) (x := 0) rfl
  rw [h1, Option.bind_some]
  cases b with
  | inl _ => exact ⟨_, rfl, .inl rfl⟩
  | inr r => exact ⟨r, rfl, .inr (h2 r rfl)⟩
theorem cut_ok {α : Type} {l : List α} {a b : Nat} (h1 : a ≤ b) (h2 : b ≤ l.length) : cut l (a : Int) (b : Int) = some ((l.take b).drop a) := by
  unfold cut
  rw [if_pos (by omega), if_pos (by omega), if_pos (by omega)]; simp
theorem app_small {α : Type} {xs ys : List α} (h : xs.length + ys.length ≤ 4294967296) : app xs ys = some (xs ++ ys) := by
  unfold app
  rw [if_pos (show xs.length + ys.length ≤ maxN from h)]
theorem bandI (a b : Int) : I64 (band .i64 a b) := by
  rw [bandT]
  have h1 := BitVec.toInt_lt (x := BitVec.ofInt 64 a &&& BitVec.ofInt 64 b)
  have h2 := BitVec.le_toInt (x := BitVec.ofInt 64 a &&& BitVec.ofInt 64 b)
  exact ⟨by omega, by omega⟩
set_option linter.unusedVariables false
set_option linter.unusedSimpArgs false
/-! ### drawn addresses -/
def lt (a b : Fent) : Prop := a.1 < b.1 ∨ (a.1 = b.1 ∧ a.2.1 < b.2.1)
def same (a b : Fent) : Prop := a.1 = b.1 ∧ a.2.1 = b.2.1
theorem lt_trans {a b c : Fent} (h : lt a b) (k : lt b c) : lt a c := by unfold lt at *; omega
theorem lt_ne {a b : Fent} (h : lt a b) : ¬ same a b := by unfold lt same at *; omega
structure FB (l : List Fent) : Prop where
  e : ∀ x ∈ l, pFent x = true
  o : l.Pairwise lt
  n : l.length ≤ 12
theorem FB.ok {l : List Fent} (h : FB l) : pFdb l = true := by
  unfold pFdb
  have hn := h.n
  rw [decide_eq_true (show (l.length : Int) ≤ 12 by omega), Bool.and_true, Bool.not_eq_true']
  apply Bool.eq_false_iff.2
  intro ha
  obtain ⟨k, hk, hx⟩ := List.any_eq_true.1 ha
  have hk := List.mem_range.1 hk
  unfold bFent at hx
  simp only [List.getElem?_eq_getElem hk, h.e _ (List.getElem_mem hk), Bool.not_true, Bool.false_or, Bool.and_eq_true, decide_eq_true_eq] at hx
  obtain ⟨h0, hx⟩ := hx
  simp only [List.getElem?_eq_getElem (show k - 1 < l.length by omega), Bool.not_eq_true'] at hx
  have hl := List.pairwise_iff_getElem.1 h.o (k - 1) k (by omega) hk (by omega)
  unfold pBehind at hx
  simp only [Bool.or_eq_false_iff, Bool.and_eq_false_iff, decide_eq_false_iff_not, beq_eq_false_iff_ne] at hx
  unfold lt at hl
  omega
theorem okF {l : List Fent} (h : FB l) : spec_FdbOk l = some true := by
  have hn := h.n
  rw [fdbS (by omega), h.ok]
def aheadB (x e : Fent) : Bool := cond (x.1 != e.1) (decide (x.1 < e.1)) (decide (x.2.1 < e.2.1))
theorem ahead_lt {x e : Fent} (h : aheadB x e = true) : lt x e := by
  unfold aheadB at h
  unfold lt
  by_cases hx : x.1 = e.1
  · rw [show (x.1 != e.1) = false by simp [hx], cond_false] at h
    exact .inr ⟨hx, of_decide_eq_true h⟩
  · rw [show (x.1 != e.1) = true from bne_iff_ne.2 hx, cond_true] at h
    exact .inl (of_decide_eq_true h)
theorem not_ahead {x e : Fent} (h : aheadB x e = false) : lt e x ∨ same x e := by
  unfold aheadB at h
  unfold lt same
  by_cases hx : x.1 = e.1
  · rw [show (x.1 != e.1) = false by simp [hx], cond_false] at h
    have := of_decide_eq_false h
    omega
  · rw [show (x.1 != e.1) = true from bne_iff_ne.2 hx, cond_true] at h
    have := of_decide_eq_false h
    omega
def otherB (x e : Fent) : Bool := x.1 != e.1 || x.2.1 != e.2.1
theorem other_true {x e : Fent} (h : otherB x e = true) : ¬ same x e := by
  unfold otherB at h; unfold same
  simp only [Bool.or_eq_true, bne_iff_ne] at h
  omega
theorem other_false {x e : Fent} (h : otherB x e = false) : same x e := by
  unfold otherB at h; unfold same
  simp only [Bool.or_eq_false_iff, bne_eq_false_iff_eq] at h
  exact h
theorem pair_snoc {l : List Fent} {x : Fent} (h : l.Pairwise lt) (k : ∀ y ∈ l, lt y x) : (l ++ [x]).Pairwise lt := by
  rw [List.pairwise_append]
  exact ⟨h, List.pairwise_singleton _ _, fun a ha b hb => by simp at hb; subst hb; exact k a ha⟩
theorem entF (e : Fent) : spec_l8Ent e = some (pFent e) := by rw [fentS]; exact fentT e
set_option linter.unusedVariables false
set_option linter.unusedSimpArgs false
def num (name : List Int) (n : Int) : Bind := ([1, 3, 1] ++ name, 2, n, [], [])
def rowVal (r : Vrow) (c : Nat) : Int := match c with | 0 => 1 | 1 => r.2.1 | _ => r.2.2
def rowG (b : Bridge) (c : Nat) : List Bind := b.2.2.2.2.1.map fun r => num [3, ((c + 1 : Nat) : Int), r.1] (rowVal r c)
def fdbG (b : Bridge) : List Bind := b.2.2.2.1.map fun e => num [4, 1, e.1, e.2.1] (w64 (e.2.2.1 + 1))
/-- What a right bridge's parts are. -/
structure BOk (b : Bridge) : Prop where
  w : BWf b
  ok : pBridge b = true
  p : ∀ x ∈ b.2.2.1, pPt x = true
  id : pIn b.1 1 99 = true
  name : b.2.1.length ≤ 10
  n1 : 1 ≤ b.2.2.1.length
  n6 : b.2.2.1.length ≤ 6
  f : pFdb b.2.2.2.1 = true
  v : pVtab (b.2.2.2.2.1, b.2.2.2.2.2.1) (b.2.2.1.length : Int) = true
  c : pCounts b = true
theorem bok {b : Bridge} (h : BWf b) (hb : pBridge b = true) : BOk b := by
  have hb' := hb
  unfold pBridge at hb
  simp only [Bool.and_eq_true, Bool.not_eq_true', decide_eq_false_iff_not] at hb
  obtain ⟨h1, h2, h3, h4, h5, h6, h7⟩ := hb
  refine ⟨h, hb', fun x hx => ?_, h2, by omega, ?_, ?_, h5, h6, h7⟩
  · obtain ⟨k, hk, rfl⟩ := List.getElem_of_mem hx
    cases hp : pPt b.2.2.1[k] with
    | true => rfl
    | false =>
      have := List.any_eq_false.1 h1 k (List.mem_range.2 hk)
      unfold bPt at this
      simp only [List.getElem?_eq_getElem hk, hp] at this
      exact absurd rfl this
  · unfold pIn at h4
    simp only [Bool.and_eq_true, decide_eq_true_eq] at h4; omega
  · unfold pIn at h4
    simp only [Bool.and_eq_true, decide_eq_true_eq] at h4; omega
theorem BOk.vt {b : Bridge} (h : BOk b) : VT (b.2.2.2.2.1, b.2.2.2.2.2.1) b.2.2.1.length := ⟨h.v, h.w.r⟩
theorem BOk.f12 {b : Bridge} (h : BOk b) : b.2.2.2.1.length ≤ 12 := by
  have hf := h.f
  unfold pFdb at hf
  simp only [Bool.and_eq_true, decide_eq_true_eq] at hf
  omega
set_option linter.unusedVariables false
set_option linter.unusedSimpArgs false
/-! ### names rise -/
theorem adj_pair {α : Type} {R : α → α → Prop} (tr : ∀ a b c, R a b → R b c → R a c) {l : List α} (h : ∀ k (hk : k + 1 < l.length), R l[k] l[k + 1]) : l.Pairwise R := by
  rw [List.pairwise_iff_getElem]
  intro i j hi hj hij
  induction j with
  | zero => omega
  | succ j ih =>
    by_cases e : i = j
    · subst e; exact h i hj
    · exact tr _ _ _ (ih (by omega) (by omega)) (h j hj)
def Head (g c : Int) (x : Bind) : Prop := ∃ t, x.1 = 1 :: 3 :: 1 :: g :: c :: t
theorem head_lt {g c g' c' : Int} {x y : Bind} (hx : Head g c x) (hy : Head g' c' y) (h : g < g' ∨ (g = g' ∧ c < c')) : x.1 < y.1 := by
  obtain ⟨t, ht⟩ := hx
  obtain ⟨s, hs⟩ := hy
  rw [ht, hs]
  simp only [List.cons_lt_cons_iff, Int.lt_irrefl, false_or, true_and]
  rcases h with h | ⟨h, k⟩
  · exact .inl h
  · exact .inr ⟨h, .inl k⟩
theorem rowG_head {b : Bridge} {c : Nat} {x : Bind} (h : x ∈ rowG b c) : Head 3 ((c + 1 : Nat) : Int) x := by
  unfold rowG at h
  obtain ⟨k, _, rfl⟩ := List.mem_map.1 h
  exact ⟨_, rfl⟩
theorem fdbG_head {b : Bridge} {x : Bind} (h : x ∈ fdbG b) : Head 4 1 x := by
  unfold fdbG at h
  obtain ⟨k, _, rfl⟩ := List.mem_map.1 h
  exact ⟨_, rfl⟩
theorem mib5_head {b : Bridge} {x : Bind} (h : x ∈ mib5 b) : ∃ c, Head 1 c x := by
  unfold mib5 at h
  simp only [List.mem_cons, List.not_mem_nil, or_false] at h
  rcases h with rfl | rfl | rfl | rfl | rfl <;> exact ⟨_, _, rfl⟩
theorem rows_rise {b : Bridge} (h : BOk b) : b.2.2.2.2.1.Pairwise fun r s => r.1 < s.1 := by
  refine adj_pair (R := fun (r s : Vrow) => r.1 < s.1) (fun _ _ _ h k => Int.lt_trans h k) fun k hk => ?_
  have hv := h.v
  unfold pVtab at hv
  simp only [Bool.and_eq_true, Bool.not_eq_true'] at hv
  have hx := List.any_eq_false.1 hv.2.1 (k + 1) (List.mem_range.2 hk)
  unfold bRow at hx
  simp only [List.getElem?_eq_getElem hk, Nat.add_sub_cancel, List.getElem?_eq_getElem (show k < b.2.2.2.2.1.length by omega), Bool.or_eq_true, Bool.and_eq_true, decide_eq_true_eq, not_or, not_and] at hx
  have := hx.2.1 (by omega)
  omega
theorem rows_pair {b : Bridge} (h : BOk b) (c : Nat) : (rowG b c).Pairwise fun x y => x.1 < y.1 := by
  unfold rowG
  rw [List.pairwise_map]
  refine List.Pairwise.imp ?_ (rows_rise h)
  intro r s h
  show (1 :: 3 :: 1 :: 3 :: ((c + 1 : Nat) : Int) :: r.1 :: []) < (1 :: 3 :: 1 :: 3 :: ((c + 1 : Nat) : Int) :: s.1 :: [])
  simp only [List.cons_lt_cons_iff, Int.lt_irrefl, false_or, true_and]
  exact .inl h
theorem fdb_rise {b : Bridge} (h : BOk b) : b.2.2.2.1.Pairwise lt := by
  refine adj_pair (R := lt) (fun _ _ _ => lt_trans) fun k hk => ?_
  have hv := h.f
  unfold pFdb at hv
  simp only [Bool.and_eq_true, Bool.not_eq_true'] at hv
  have hx := List.any_eq_false.1 hv.1 (k + 1) (List.mem_range.2 hk)
  unfold bFent at hx
  simp only [List.getElem?_eq_getElem hk, Nat.add_sub_cancel, List.getElem?_eq_getElem (show k < b.2.2.2.1.length by omega), Bool.or_eq_true, Bool.and_eq_true, decide_eq_true_eq, not_or, not_and, Bool.not_eq_true', Bool.not_eq_false] at hx
  have hp := hx.2 (by omega)
  unfold pBehind at hp
  simp only [Bool.or_eq_true, Bool.and_eq_true, decide_eq_true_eq, beq_iff_eq] at hp
  unfold lt
  omega
theorem fdb_pair {b : Bridge} (h : BOk b) : (fdbG b).Pairwise fun x y => x.1 < y.1 := by
  unfold fdbG
  rw [List.pairwise_map]
  refine List.Pairwise.imp ?_ (fdb_rise h)
  intro r s h
  show (1 :: 3 :: 1 :: 4 :: 1 :: r.1 :: r.2.1 :: []) < (1 :: 3 :: 1 :: 4 :: 1 :: s.1 :: s.2.1 :: [])
  unfold lt at h
  simp only [List.cons_lt_cons_iff, Int.lt_irrefl, false_or, true_and]
  rcases h with h | ⟨h, k⟩
  · exact .inl h
  · exact .inr ⟨h, .inl k⟩
theorem mib5_pair (b : Bridge) : (mib5 b).Pairwise fun x y => x.1 < y.1 := by
  unfold mib5
  simp only [List.pairwise_cons, List.mem_cons, List.not_mem_nil, or_false, forall_eq_or_imp, forall_eq, List.Pairwise.nil, and_true, false_imp_iff, implies_true, List.cons_lt_cons_iff, Int.lt_irrefl, false_or, true_and]
  refine ⟨⟨.inl (by decide), .inl (by decide), .inl (by decide), .inl (by decide)⟩, ⟨.inl (by decide), .inl (by decide), .inl (by decide)⟩, ⟨.inl (by decide), .inl (by decide)⟩, .inl (by decide)⟩
theorem flat4 {α : Type} (f : Nat → List α) : (List.range 4).flatMap f = f 0 ++ (f 1 ++ (f 2 ++ (f 3 ++ []))) := rfl
theorem flat3 {α : Type} (f : Nat → List α) : (List.range 3).flatMap f = f 0 ++ (f 1 ++ (f 2 ++ [])) := rfl
theorem group_pair {n : Nat} {f : Nat → List Bind} {g : Int} (hp : ∀ c, (f c).Pairwise fun x y => x.1 < y.1) (hh : ∀ c x, x ∈ f c → Head g ((c + 1 : Nat) : Int) x) : ((List.range n).flatMap f).Pairwise fun x y => x.1 < y.1 := by
  induction n with
  | zero => exact List.Pairwise.nil
  | succ n ih =>
    rw [List.range_succ, List.flatMap_append, List.pairwise_append]
    refine ⟨ih, by simp; exact hp n, fun x hx y hy => ?_⟩
    obtain ⟨c, hc, hx⟩ := List.mem_flatMap.1 hx
    have hc := List.mem_range.1 hc
    simp at hy
    exact head_lt (hh c x hx) (hh n y hy) (.inr ⟨rfl, by omega⟩)
/-! ### one name ahead of another -/
theorem lex_at (p s t : List Int) {x y : Int} (h : x ≠ y) : (p ++ x :: s < p ++ y :: t) ↔ x < y := by
  induction p with
  | nil =>
    simp only [List.nil_append, List.cons_lt_cons_iff]
    exact ⟨fun k => k.elim id fun k => absurd k.1 h, .inl⟩
  | cons a p ih => simp only [List.cons_append, List.cons_lt_cons_iff, ih, Int.lt_irrefl, false_or, true_and]
theorem lex_pre (p : List Int) {s : List Int} (h : s ≠ []) : p < p ++ s := by
  induction p with
  | nil => cases s with
    | nil => exact absurd rfl h
    | cons a s => exact List.nil_lt_cons a s
  | cons a p ih => simp only [List.cons_append, List.cons_lt_cons_iff, Int.lt_irrefl, false_or, true_and]; exact ih
theorem lex_suf (p s : List Int) : ¬ p ++ s < p := by
  induction p with
  | nil => exact List.not_lt_nil s
  | cons a p ih => simp only [List.cons_append, List.cons_lt_cons_iff, Int.lt_irrefl, false_or, true_and]; exact ih
set_option linter.unusedVariables false
set_option linter.unusedSimpArgs false
/-! ### each is right -/
theorem sameO {a b : List Int} (h : b.length < 9223372036854775807) : impl_SameOid a b = some (a == b) := by
  unfold impl_SameOid
  by_cases hl : a.length = b.length
  · have e : ((a.length : Int) != (b.length : Int)) = false := by rw [hl]; simp
    rw [e, cond_false]
    obtain ⟨v, h1, rfl⟩ := loop_inv (step := fun z => impl_SameOid_l0 a b z) (fun k i => i = (k : Int) ∧ a.take k = b.take k) a.length (fun v => v = cond (a == b) (.inl ()) (.inr false))
      (fun k i hk ⟨e, ht⟩ => by
        subst e
        have hb : k < b.length := by omega
        have hs : impl_SameOid_l0 a b (k : Int) = cond (a[k] != b[k]) (some (.inr (.inr false))) (some (.inl ((k + 1 : Nat) : Int))) := by
          unfold impl_SameOid_l0
          rw [dlt (by omega), cond_true, at_nat hk, Option.bind_some, at_nat hb, Option.bind_some, w64_nat (by omega)]
        by_cases hne : a[k] = b[k]
        · refine .inl ⟨_, by rw [hs, show (a[k] != b[k]) = false by simp [hne]]; rfl, rfl, ?_⟩
          rw [List.take_add_one, List.take_add_one, List.getElem?_eq_getElem hk, List.getElem?_eq_getElem hb, ht, hne]
        · refine .inr ⟨_, by rw [hs, show (a[k] != b[k]) = true from bne_iff_ne.2 hne]; rfl, ?_⟩
          have : (a == b) = false := by
            apply beq_eq_false_iff_ne.2
            intro hab
            subst hab
            exact hne rfl
          rw [this]; rfl)
      (fun i ⟨e, ht⟩ => by
        subst e
        have hab : a = b := by
          rw [List.take_length, List.take_of_length_le (by omega)] at ht; exact ht
        exact ⟨.inl (), by show impl_SameOid_l0 a b _ = _; unfold impl_SameOid_l0; rw [dnlt (by omega), cond_false], by rw [show (a == b) = true from beq_iff_eq.2 hab]; rfl⟩) (x := 0) ⟨rfl, by simp⟩
    rw [h1, Option.bind_some]
    cases (a == b) <;> rfl
  · have e : ((a.length : Int) != (b.length : Int)) = true := by simp; omega
    have hne : (a == b) = false := beq_eq_false_iff_ne.2 fun h => hl (by rw [h])
    rw [e, cond_true, hne]
theorem sameV1 {v : Val} (h : v.2.2.2.length < 9223372036854775807) : impl_SameVal v v = some true := by
  unfold impl_SameVal
  rw [sameO h]
  simp
/-- A name's bounds. -/
structure Nm (o : List Int) : Prop where
  n1 : 1 ≤ o.length
  n10 : o.length ≤ 10
  e : ∀ x ∈ o, pIn x 0 100000 = true
theorem Nm.ok {o : List Int} (h : Nm o) : impl_OidOk o = some true := by
  have h10 := h.n10
  have h1 := h.n1
  unfold impl_OidOk
  obtain ⟨v, e, rfl⟩ := loop_inv (step := fun z => impl_OidOk_l0 o z) (fun k i => i = (k : Int)) o.length (fun v => v = .inl ())
    (fun k i hk e => by
      subst e
      refine .inl ⟨((k + 1 : Nat) : Int), ?_, rfl⟩
      show impl_OidOk_l0 o (k : Int) = _
      unfold impl_OidOk_l0
      rw [dlt (by omega), cond_true, at_nat hk, Option.bind_some, inT, Option.bind_some, h.e _ (List.getElem_mem hk), w64_nat (by omega)]; rfl)
    (fun i e => by
      subst e
      exact ⟨.inl (), by show impl_OidOk_l0 o _ = _; unfold impl_OidOk_l0; rw [dnlt (by omega), cond_false], rfl⟩) (x := 0) rfl
  rw [e, Option.bind_some]
  show ((impl_in (o.length : Int) 1 10).bind fun t => some t) = _
  rw [inT, Option.bind_some]
  unfold pIn
  rw [decide_eq_true (by omega), decide_eq_true (by omega)]; rfl
/-- A thing's value: a small number, or a short word. -/
inductive Vl : Val → Prop
  | num {n : Int} (h : pIn n (-2147483648) 2147483647 = true) : Vl (2, n, [], [])
  | word {s : List UInt8} (h : s.length ≤ 20) : Vl (4, 0, s, [])
theorem Vl.ok {v : Val} (h : Vl v) : impl_ValOk v = some true := by
  cases h with
  | num h =>
    unfold impl_ValOk impl_isInt impl_SameVal
    simp only [inT, h, Option.bind_some, sameO (show ([] : List Int).length < 9223372036854775807 by decide)]
    simp
  | word h =>
    rename_i s
    have hd : decide ((s.length : Int) ≤ 20) = true := decide_eq_true (by omega)
    unfold impl_ValOk impl_SameVal
    simp only [hd, Option.bind_some, sameO (show ([] : List Int).length < 9223372036854775807 by decide)]
    simp
theorem Vl.k {v : Val} (h : Vl v) : (v.1 == 128) = false := by cases h <;> rfl
theorem Vl.o {v : Val} (h : Vl v) : v.2.2.2 = [] := by cases h <;> rfl
theorem in32 {n : Int} (h1 : 0 ≤ n) (h2 : n ≤ 2147483647) : pIn n (-2147483648) 2147483647 = true := by unfold pIn; rw [decide_eq_true (by omega), decide_eq_true (by omega)]; rfl
theorem inP {n a c : Int} (h1 : a ≤ n) (h2 : n ≤ c) : pIn n a c = true := by unfold pIn; rw [decide_eq_true (by omega), decide_eq_true (by omega)]; rfl
theorem inE {n a c : Int} (h : pIn n a c = true) : a ≤ n ∧ n ≤ c := by
  unfold pIn at h
  simp only [Bool.and_eq_true, decide_eq_true_eq] at h
  exact h
theorem rowAtE {v : Vtab} (hn : v.1.length < 9223372036854775807) {id r : Int} (h : impl_RowAt v id = some r) (h0 : ¬ r < 0) : ∃ x ∈ v.1, x.1 = id := by
  unfold impl_RowAt at h
  obtain ⟨b, h1, h2⟩ := loop_inv (β := Unit ⊕ Int) (step := fun z => impl_RowAt_l0 v id z) (fun k i => i = (k : Int)) v.1.length (fun b => ∀ r, b = .inr r → ∃ x ∈ v.1, x.1 = id)
    (fun k i hk h => by
      subst h
      unfold impl_RowAt_l0
      rw [dlt (by omega), cond_true, at_nat hk, Option.bind_some]
      cases hb : (v.1[k].1 == id) with
      | true => exact .inr ⟨_, rfl, fun r hr => ⟨_, List.getElem_mem hk, eq_of_beq hb⟩⟩
      | false => exact .inl ⟨_, rfl, w64_nat (by omega)⟩)
    (fun i h => by
      subst h
      unfold impl_RowAt_l0
      rw [dnlt (by omega)]
      exact ⟨_, rfl, fun r hr => by cases hr⟩) (x := 0) rfl
  rw [h1, Option.bind_some] at h
  cases b with
  | inl _ => cases h; exact absurd (by decide) h0
  | inr r' => exact h2 r' rfl
theorem rows_in {b : Bridge} (h : BOk b) {r : Vrow} (hr : r ∈ b.2.2.2.2.1) : (1 ≤ r.1 ∧ r.1 ≤ 99) ∧ (0 ≤ r.2.1 ∧ r.2.1 ≤ 63) ∧ (0 ≤ r.2.2 ∧ r.2.2 ≤ 63) := by
  obtain ⟨k, hk, rfl⟩ := List.getElem_of_mem hr
  have hv := h.v
  unfold pVtab at hv
  simp only [Bool.and_eq_true, Bool.not_eq_true', Bool.or_eq_false_iff, Bool.not_eq_false'] at hv
  have hx := List.any_eq_false.1 hv.2.1 k (List.mem_range.2 hk)
  unfold bRow at hx
  simp only [List.getElem?_eq_getElem hk, Bool.or_eq_true, Bool.not_eq_true', not_or, Bool.not_eq_false] at hx
  obtain ⟨x1, _, x3, x4⟩ := hx
  have ht := topLe (i := (b.2.2.1.length : Int)) hv.1.1
  have y1 := inE x1
  have y3 := inE x3
  have x4 : (bclr .i64 b.2.2.2.2.1[k].2.2 b.2.2.2.2.1[k].2.1 != 0) = false := by simpa using x4
  refine ⟨y1, by omega, ?_⟩
  have hI := h.w.r _ (List.getElem_mem hk)
  have hband := inE (bits_in hI.1 hI.2 x3 ht.2 (by rw [bits_same hI.1 hI.2]; exact x4))
  omega
theorem pvid_in {b : Bridge} (h : BOk b) {x : Int} (hx : x ∈ b.2.2.2.2.2.1) : 1 ≤ x ∧ x ≤ 99 := by
  obtain ⟨k, hk, rfl⟩ := List.getElem_of_mem hx
  have hv := h.v
  have hn : b.2.2.2.2.1.length < 9223372036854775807 := h.w.v
  unfold pVtab at hv
  simp only [Bool.and_eq_true, Bool.not_eq_true'] at hv
  have hq := List.any_eq_false.1 hv.2.2 k (List.mem_range.2 hk)
  unfold bPvid at hq
  simp only [List.getElem?_eq_getElem hk] at hq
  obtain ⟨r, hr⟩ := rowAtT (v := (b.2.2.2.2.1, b.2.2.2.2.2.1)) hn b.2.2.2.2.2.1[k]
  rw [hr] at hq
  simp only [decide_eq_true_eq] at hq
  obtain ⟨y, hy, e⟩ := rowAtE (v := (b.2.2.2.2.1, b.2.2.2.2.2.1)) hn hr hq
  have := (rows_in h (r := y) hy).1
  rw [e] at this
  exact this
theorem fdb_in {b : Bridge} (h : BOk b) {e : Fent} (he : e ∈ b.2.2.2.1) : (1 ≤ e.1 ∧ e.1 ≤ 99) ∧ (1 ≤ e.2.1 ∧ e.2.1 ≤ 9999) ∧ (0 ≤ e.2.2.1 ∧ e.2.2.1 ≤ 7) := by
  obtain ⟨k, hk, rfl⟩ := List.getElem_of_mem he
  have hv := h.f
  unfold pFdb at hv
  simp only [Bool.and_eq_true, Bool.not_eq_true'] at hv
  have hx := List.any_eq_false.1 hv.1 k (List.mem_range.2 hk)
  unfold bFent at hx
  simp only [List.getElem?_eq_getElem hk, Bool.or_eq_true, Bool.not_eq_true', not_or, Bool.not_eq_false] at hx
  have hf := hx.1
  unfold pFent at hf
  simp only [Bool.and_eq_true] at hf
  exact ⟨inE hf.1, inE hf.2.1, inE hf.2.2.1⟩
theorem counts_in {b : Bridge} (h : BOk b) : (0 ≤ b.2.2.2.2.2.2.1 ∧ b.2.2.2.2.2.2.1 ≤ 1000000) ∧ (0 ≤ b.2.2.2.2.2.2.2.1 ∧ b.2.2.2.2.2.2.2.1 ≤ 1000000) ∧ (0 ≤ b.2.2.2.2.2.2.2.2.1 ∧ b.2.2.2.2.2.2.2.2.1 ≤ 1000000) ∧ (0 ≤ b.2.2.2.2.2.2.2.2.2.1 ∧ b.2.2.2.2.2.2.2.2.2.1 ≤ 1000000) ∧ (0 ≤ b.2.2.2.2.2.2.2.2.2.2 ∧ b.2.2.2.2.2.2.2.2.2.2 ≤ 1000000) := by
  have hc := h.c
  unfold pCounts at hc
  simp only [Bool.and_eq_true] at hc
  exact ⟨inE hc.1, inE hc.2.1, inE hc.2.2.1, inE hc.2.2.2.1, inE hc.2.2.2.2⟩
theorem nm5 {a b : Int} (ha : 0 ≤ a ∧ a ≤ 100000) (hb : 0 ≤ b ∧ b ≤ 100000) : Nm [1, 3, 1, a, b] := ⟨by simp, by simp, fun x hx => by
  simp only [List.mem_cons, List.not_mem_nil, or_false] at hx
  rcases hx with rfl | rfl | rfl | rfl | rfl
  · decide
  · decide
  · decide
  · exact inP ha.1 ha.2
  · exact inP hb.1 hb.2⟩
theorem nm6 {a b c : Int} (ha : 0 ≤ a ∧ a ≤ 100000) (hb : 0 ≤ b ∧ b ≤ 100000) (hc : 0 ≤ c ∧ c ≤ 100000) : Nm [1, 3, 1, a, b, c] := ⟨by simp, by simp, fun x hx => by
  simp only [List.mem_cons, List.not_mem_nil, or_false] at hx
  rcases hx with rfl | rfl | rfl | rfl | rfl | rfl
  · decide
  · decide
  · decide
  · exact inP ha.1 ha.2
  · exact inP hb.1 hb.2
  · exact inP hc.1 hc.2⟩
theorem nm7 {a b c d : Int} (ha : 0 ≤ a ∧ a ≤ 100000) (hb : 0 ≤ b ∧ b ≤ 100000) (hc : 0 ≤ c ∧ c ≤ 100000) (hd : 0 ≤ d ∧ d ≤ 100000) : Nm [1, 3, 1, a, b, c, d] := ⟨by simp, by simp, fun x hx => by
  simp only [List.mem_cons, List.not_mem_nil, or_false] at hx
  rcases hx with rfl | rfl | rfl | rfl | rfl | rfl | rfl
  · decide
  · decide
  · decide
  · exact inP ha.1 ha.2
  · exact inP hb.1 hb.2
  · exact inP hc.1 hc.2
  · exact inP hd.1 hd.2⟩
set_option linter.unusedVariables false
set_option linter.unusedSimpArgs false
/-! ### copies -/
theorem app_nil {α : Type} {ys : List α} (h : ys.length ≤ M) : app [] ys = some ys := by
  unfold app
  rw [if_pos (by show 0 + ys.length ≤ 4294967296; have h' : ys.length ≤ 1048576 := h; omega)]; rfl
theorem copyBytes {l : List Int} (h : l.length ≤ M) : impl_copyBytes l = some l := by unfold impl_copyBytes; rw [app_nil h]; rfl
/-! ### what an argument is -/
theorem bridge_wf {b : Bridge} (h : Cs.wf cBridge b) : BLe maxLen b := by
  simp only [cBridge, Cs.wf, CT.wf] at h
  obtain ⟨_, h1, h2, h3, h4, h5, _⟩ := h
  exact ⟨h1, h2.1, h3.1, h4.1, h5.1⟩
theorem bridge_bwf {b : Bridge} (h : Cs.wf cBridge b) (hl : BLe M b) : BWf b := by
  obtain ⟨_, l2, l3, l4, l5⟩ := hl
  have hM : M < 9223372036854775807 := by decide
  refine ⟨by omega, by omega, by omega, by omega, fun r hr => ?_⟩
  simp only [cBridge, Cs.wf, CT.wf] at h
  obtain ⟨_, _, _, _, h4, _⟩ := h
  have := (h4.2 r hr).2.2
  exact this
theorem bind_wf {x : Bind} (h : Cs.wf cBind x) : XLe maxLen x := by
  simp only [cBind, Cs.wf, CT.wf] at h
  exact ⟨h.1.1, h.2.2.2.1, h.2.2.2.2.1⟩
theorem job_wf {j : Job} (h : Cs.wf cJob j) : JLe maxLen j := by
  simp only [cJob, Cs.wf, CT.wf] at h
  obtain ⟨_, h1, _, _, _, _, _, h2, _, h3, h4, h5, h6, h7, _⟩ := h
  refine ⟨h1.1, ⟨h2.1, fun x hx => bind_wf ?_⟩, ⟨h3, h4.1, h5.1, h6.1, h7.1⟩⟩
  have := h2.2 x hx
  simpa only [cBind, Cs.wf, CT.wf] using this
theorem agent_wf {a : Agent} (h : Cs.wf cAgent a) : ALe maxLen a := by
  simp only [cAgent, Cs.wf, CT.wf] at h
  obtain ⟨_, h1, h2, h3, h4, h5, _, _, _, _, _, h6, h7, _⟩ := h
  refine ⟨⟨h1, h2.1, h3.1, h4.1, h5.1⟩, h6, h7.1, fun x hx => job_wf ?_⟩
  have := h7.2 x hx
  simpa only [cJob, Cs.wf, CT.wf] using this

set_option linter.unusedVariables false
set_option linter.unusedSimpArgs false
/-! ### names, values, requests -/
def bOid (o : List Int) (k : Nat) : Bool := match o[k]? with | some x => !(pIn x 0 100000) | none => false
def pOid (o : List Int) : Bool := !((List.range o.length).any (bOid o)) && pIn (o.length : Int) 1 10
theorem oidT {o : List Int} (h : o.length < 9223372036854775807) : impl_OidOk o = some (pOid o) := by
  unfold impl_OidOk pOid
  have e : loop (fun z => impl_OidOk_l0 o z) 0 = some (cond ((List.range o.length).any (bOid o)) (Sum.inr false) (Sum.inl ())) := by
    rw [← all_loop (n := o.length) (c := fun i => (at? o i).bind fun x => (impl_in x 0 100000).bind fun t => some (!t)) (b := bOid o) h (fun k hk => by
      simp only [at_nat hk, Option.bind_some, bOid, List.getElem?_eq_getElem hk, inT])]
    refine loop_ext (fun i => ?_) 0
    unfold impl_OidOk_l0
    simp only [Option.bind_assoc, Option.bind_some]
  rw [e, Option.bind_some]
  cases (List.range o.length).any (bOid o) with
  | true => rfl
  | false => simp only [cond_false, Sum.elim_inl, inT, Option.bind_some, Bool.not_false, Bool.true_and]
theorem oidS : spec_OidOk = impl_OidOk := rfl
theorem clipT (n : Int) : ∃ c, spec_l1Clip n = some c ∧ (c == n) = pIn n (-2147483648) 2147483647 := by
  unfold spec_l1Clip pIn
  by_cases h1 : n > 2147483647
  · refine ⟨_, by rw [decide_eq_true h1]; rfl, ?_⟩
    rw [decide_eq_false (show ¬ n ≤ 2147483647 by omega), Bool.and_false]
    exact beq_eq_false_iff_ne.2 (by omega)
  · by_cases h2 : n < -2147483648
    · refine ⟨_, by rw [decide_eq_false h1, decide_eq_true h2]; rfl, ?_⟩
      rw [decide_eq_false (show ¬ n ≥ -2147483648 by omega), Bool.false_and]
      exact beq_eq_false_iff_ne.2 (by omega)
    · refine ⟨_, by rw [decide_eq_false h1, decide_eq_false h2]; rfl, ?_⟩
      rw [decide_eq_true (show n ≥ -2147483648 by omega), decide_eq_true (show n ≤ 2147483647 by omega), beq_self_eq_true]; rfl
theorem sameNil (l : List Int) : impl_SameOid l [] = some ((l.length : Int) == 0) := by
  cases l with
  | nil => exact eqS_of (n := 0) (eq_loop' (a := []) (by decide))
  | cons x l =>
    unfold impl_SameOid
    have e : (((x :: l).length : Int) != (([] : List Int).length : Int)) = true := by simp; omega
    rw [e, cond_true, beq_eq_false_iff_ne.2 (by simp; omega)]
theorem sameSelf {l : List Int} (h : l.length ≤ M) : impl_SameOid l l = some true := eqS_of (eq_loop' (le32 h))
theorem eqNil (s : List UInt8) : (s == []) = ((s.length : Int) == 0) := by cases s with
  | nil => rfl
  | cons a s => rw [beq_eq_false_iff_ne.2 (by simp), beq_eq_false_iff_ne.2 (by simp; omega)]
def pVal (v : Val) : Bool :=
  cond (v.1 == 5 || (v.1 == 128 || v.1 == 130)) (v.2.1 == 0 && (v.2.2.1 == [] && ((v.2.2.2.length : Int) == 0)))
    (cond (v.1 == 2) (pIn v.2.1 (-2147483648) 2147483647 && (v.2.2.1 == [] && ((v.2.2.2.length : Int) == 0)))
      (cond (v.1 == 4) (decide ((v.2.2.1.length : Int) ≤ 20) && (v.2.1 == 0 && ((v.2.2.2.length : Int) == 0)))
        (cond (v.1 == 6) (pOid v.2.2.2 && (v.2.1 == 0 && (v.2.2.1 == []))) false)))
theorem valT {v : Val} (h : v.2.2.2.length ≤ M) : impl_ValOk v = some (pVal v) := by
  obtain ⟨k, n, s, o⟩ := v
  have h' : o.length ≤ 1048576 := h
  have ho : o.length ≤ M := h
  have hb : o.length < 9223372036854775807 := by omega
  unfold impl_ValOk pVal impl_SameVal impl_isInt
  simp only [inT, sameNil, sameSelf ho, oidT hb, Option.bind_some]
  by_cases h2 : k = 2
  · subst h2; cases pIn n (-2147483648) 2147483647 <;> cases s == [] <;> cases (o.length : Int) == 0 <;> simp
  by_cases h4 : k = 4
  · subst h4; cases decide ((s.length : Int) ≤ 20) <;> cases n == 0 <;> cases (o.length : Int) == 0 <;> simp
  by_cases h6 : k = 6
  · subst h6; cases pOid o <;> cases n == 0 <;> cases s == [] <;> simp
  rw [beq_eq_false_iff_ne.2 h2, beq_eq_false_iff_ne.2 h4, beq_eq_false_iff_ne.2 h6]
  by_cases h5 : k = 5
  · subst h5; cases n == 0 <;> cases s == [] <;> cases (o.length : Int) == 0 <;> simp
  by_cases h128 : k = 128
  · subst h128; cases n == 0 <;> cases s == [] <;> cases (o.length : Int) == 0 <;> simp
  by_cases h130 : k = 130
  · subst h130; cases n == 0 <;> cases s == [] <;> cases (o.length : Int) == 0 <;> simp
  rw [beq_eq_false_iff_ne.2 h5, beq_eq_false_iff_ne.2 h128, beq_eq_false_iff_ne.2 h130]
  rfl
theorem valS {v : Val} (h : v.2.2.2.length ≤ M) : spec_ValOk v = some (pVal v) := by
  obtain ⟨k, n, s, o⟩ := v
  have h' : o.length ≤ 1048576 := h
  have hb : o.length < 9223372036854775807 := by omega
  obtain ⟨c, hc, hc2⟩ := clipT n
  unfold spec_ValOk pVal
  simp only [oidS, oidT hb, hc, hc2, Option.bind_some]
  by_cases h5 : k = 5
  · subst h5; cases n == 0 <;> cases s == [] <;> cases (o.length : Int) == 0 <;> simp
  by_cases h128 : k = 128
  · subst h128; cases n == 0 <;> cases s == [] <;> cases (o.length : Int) == 0 <;> simp
  by_cases h130 : k = 130
  · subst h130; cases n == 0 <;> cases s == [] <;> cases (o.length : Int) == 0 <;> simp
  rw [beq_eq_false_iff_ne.2 h5, beq_eq_false_iff_ne.2 h128, beq_eq_false_iff_ne.2 h130]
  by_cases h2 : k = 2
  · subst h2; cases pIn n (-2147483648) 2147483647 <;> cases s == [] <;> cases (o.length : Int) == 0 <;> simp
  by_cases h4 : k = 4
  · subst h4; cases decide ((s.length : Int) ≤ 20) <;> cases n == 0 <;> cases (o.length : Int) == 0 <;> simp
  by_cases h6 : k = 6
  · subst h6; cases pOid o <;> cases n == 0 <;> cases s == [] <;> simp
  rw [beq_eq_false_iff_ne.2 h2, beq_eq_false_iff_ne.2 h4, beq_eq_false_iff_ne.2 h6]
  rfl
def xOk (x : Bind) : Bool := pOid x.1 && pVal x.2
def bX (l : List Bind) (k : Nat) : Bool := match l[k]? with | some x => !(xOk x) | none => false
def pPdu (p : Pdu) : Bool :=
  (!((List.range p.2.2.2.2.length).any (bX p.2.2.2.2)) && decide ((p.2.2.2.2.length : Int) ≤ 10)) &&
  (cond (p.1 == 162 || p.1 == 165) (pIn p.2.2.1 0 1000 && pIn p.2.2.2.1 0 1000)
    (cond (p.1 == 160 || (p.1 == 161 || p.1 == 163)) (p.2.2.1 == 0 && p.2.2.2.1 == 0) false) && pIn p.2.1 (-2147483648) 2147483647)
theorem any_or {n : Nat} {f g : Nat → Bool} : (List.range n).any (fun k => f k || g k) = ((List.range n).any f || (List.range n).any g) := by
  generalize List.range n = l
  induction l with
  | nil => rfl
  | cons a l ih => simp only [List.any_cons, ih]; cases f a <;> cases g a <;> simp
theorem any_ten (n : Nat) : (List.range n).any (fun k => decide ((k : Int) ≥ 10)) = !(decide ((n : Int) ≤ 10)) := by
  by_cases h : (n : Int) ≤ 10
  · rw [decide_eq_true h]
    refine Bool.eq_false_iff.2 fun ha => ?_
    obtain ⟨k, h1, h2⟩ := List.any_eq_true.1 ha
    have := List.mem_range.1 h1
    have := of_decide_eq_true h2
    omega
  · rw [decide_eq_false h]
    exact List.any_eq_true.2 ⟨10, List.mem_range.2 (by omega), by decide⟩
theorem pdu_loop {p : Pdu} (h : PLe M p) : loop (fun z => impl_PduOk_l1 p z) 0 = some (cond (!(decide ((p.2.2.2.2.length : Int) ≤ 10)) || (List.range p.2.2.2.2.length).any (bX p.2.2.2.2)) (Sum.inr false) (Sum.inl ())) := by
  obtain ⟨k, i, e, x, l⟩ := p
  have h' : XsLe M l := h
  have hl : l.length ≤ 1048576 := h'.1
  show loop (fun z => impl_PduOk_l1 (k, i, e, x, l) z) 0 = some (cond (!(decide ((l.length : Int) ≤ 10)) || (List.range l.length).any (bX l)) (Sum.inr false) (Sum.inl ()))
  rw [← any_ten, ← any_or, ← all_loop (n := l.length) (c := fun i => (at? l i).bind fun x => (cond (decide (i ≥ 10)) (some true) ((impl_OidOk x.1).bind fun t => some (!t))).bind fun t => (cond t (some true) ((impl_ValOk x.2).bind fun t => some (!t)))) (b := fun k => decide ((k : Int) ≥ 10) || bX l k) (by omega) (fun k hk => by
    have hx : XLe M l[k] := h'.2 _ (List.getElem_mem hk)
    have h1 : l[k].1.length ≤ 1048576 := hx.1
    have h2 : l[k].2.2.2.2.length ≤ M := hx.2.2
    simp only [at_nat hk, Option.bind_some, bX, List.getElem?_eq_getElem hk, oidT (show l[k].1.length < 9223372036854775807 by omega), valT (v := l[k].2) h2, xOk]
    cases decide ((k : Int) ≥ 10) <;> cases pOid l[k].1 <;> cases pVal l[k].2 <;> rfl)]
  refine loop_ext (fun i => ?_) 0
  unfold impl_PduOk_l1
  simp only [Option.bind_assoc, Option.bind_some]
theorem pdu_loopS {p : Pdu} (h : PLe M p) : loop (fun z => spec_PduOk_l0 p z) 0 = some (cond ((List.range p.2.2.2.2.length).any (bX p.2.2.2.2)) (Sum.inr false) (Sum.inl ())) := by
  obtain ⟨k, i, e, x, l⟩ := p
  have h' : XsLe M l := h
  have hl : l.length ≤ 1048576 := h'.1
  show loop (fun z => spec_PduOk_l0 (k, i, e, x, l) z) 0 = some (cond ((List.range l.length).any (bX l)) (Sum.inr false) (Sum.inl ()))
  rw [← all_loop (n := l.length) (c := fun i => (at? l i).bind fun x => (spec_OidOk x.1).bind fun t => (cond (!t) (some true) ((at? l i).bind fun x => (spec_ValOk x.2).bind fun t => some (!t)))) (b := bX l) (by omega) (fun k hk => by
    have hx : XLe M l[k] := h'.2 _ (List.getElem_mem hk)
    have h1 : l[k].1.length ≤ 1048576 := hx.1
    have h2 : l[k].2.2.2.2.length ≤ M := hx.2.2
    simp only [at_nat hk, Option.bind_some, bX, List.getElem?_eq_getElem hk, oidS, oidT (show l[k].1.length < 9223372036854775807 by omega), valS (v := l[k].2) h2, xOk]
    cases pOid l[k].1 <;> cases pVal l[k].2 <;> rfl)]
  refine loop_ext (fun i => ?_) 0
  unfold spec_PduOk_l0
  simp only [Option.bind_assoc, Option.bind_some]
theorem pduT {p : Pdu} (h : PLe M p) : impl_PduOk p = some (pPdu p) := by
  have e0 := pdu_loop h
  have e1 : loop (fun z => impl_PduOk_l1_1 p z) 0 = _ := e0
  have e2 : loop (fun z => impl_PduOk_l1_2 p z) 0 = _ := e0
  have e3 : loop (fun z => impl_PduOk_l1_3 p z) 0 = _ := e0
  have e4 : loop (fun z => impl_PduOk_l1_4 p z) 0 = _ := e0
  have e5 : loop (fun z => impl_PduOk_l1_5 p z) 0 = _ := e0
  have e6 : loop (fun z => impl_PduOk_l1_6 p z) 0 = _ := e0
  have e7 : loop (fun z => impl_PduOk_l1_7 p z) 0 = _ := e0
  have e8 : loop (fun z => impl_PduOk_l1_8 p z) 0 = _ := e0
  unfold impl_PduOk pPdu impl_isInt
  rw [e0, e1, e2, e3, e4, e5, e6, e7, e8]
  simp only [inT, Option.bind_some]
  generalize (List.range p.2.2.2.2.length).any (bX p.2.2.2.2) = u
  generalize decide ((p.2.2.2.2.length : Int) ≤ 10) = w
  generalize pIn p.2.1 (-2147483648) 2147483647 = x
  generalize p.2.2.1 = e
  generalize p.2.2.2.1 = i
  generalize p.1 = k
  by_cases h0 : k = 160
  · subst h0
    have b1 : (e != 0) = !(e == 0) := rfl
    have b2 : (i != 0) = !(i == 0) := rfl
    rw [b1, b2]
    cases e == 0 <;> cases i == 0 <;> cases u <;> cases w <;> cases x <;> rfl
  by_cases h1 : k = 161
  · subst h1
    have b1 : (e != 0) = !(e == 0) := rfl
    have b2 : (i != 0) = !(i == 0) := rfl
    rw [b1, b2]
    cases e == 0 <;> cases i == 0 <;> cases u <;> cases w <;> cases x <;> rfl
  by_cases h3 : k = 163
  · subst h3
    have b1 : (e != 0) = !(e == 0) := rfl
    have b2 : (i != 0) = !(i == 0) := rfl
    rw [b1, b2]
    cases e == 0 <;> cases i == 0 <;> cases u <;> cases w <;> cases x <;> rfl
  by_cases h2 : k = 162
  · subst h2; cases pIn e 0 1000 <;> cases pIn i 0 1000 <;> cases u <;> cases w <;> cases x <;> rfl
  by_cases h5 : k = 165
  · subst h5; cases pIn e 0 1000 <;> cases pIn i 0 1000 <;> cases u <;> cases w <;> cases x <;> rfl
  rw [beq_eq_false_iff_ne.2 h0, beq_eq_false_iff_ne.2 h1, beq_eq_false_iff_ne.2 h2, beq_eq_false_iff_ne.2 h3, beq_eq_false_iff_ne.2 h5]
  cases u <;> cases w <;> rfl
theorem pduS {p : Pdu} (h : PLe M p) : spec_PduOk p = some (pPdu p) := by
  obtain ⟨c, hc, hc2⟩ := clipT p.2.1
  unfold spec_PduOk pPdu spec_l4Kind
  rw [pdu_loopS h]
  simp only [inS, hc, hc2, Option.bind_some]
  generalize (List.range p.2.2.2.2.length).any (bX p.2.2.2.2) = u
  generalize decide ((p.2.2.2.2.length : Int) ≤ 10) = w
  generalize pIn p.2.1 (-2147483648) 2147483647 = x
  generalize p.2.2.1 = e
  generalize p.2.2.2.1 = i
  generalize p.1 = k
  have b1 : (e != 0) = !(e == 0) := rfl
  have b2 : (i != 0) = !(i == 0) := rfl
  rw [b1, b2]
  have z1 : (e == 0) = true → pIn e 0 1000 = true := fun h => by rw [eq_of_beq h]; rfl
  have z2 : (i == 0) = true → pIn i 0 1000 = true := fun h => by rw [eq_of_beq h]; rfl
  by_cases h2 : k = 162
  · subst h2; cases pIn e 0 1000 <;> cases pIn i 0 1000 <;> cases u <;> cases w <;> cases x <;> rfl
  by_cases h5 : k = 165
  · subst h5; cases pIn e 0 1000 <;> cases pIn i 0 1000 <;> cases u <;> cases w <;> cases x <;> rfl
  have n2 : (k != 162) = true := bne_iff_ne.2 h2
  have n5 : (k != 165) = true := bne_iff_ne.2 h5
  rw [n2, n5, beq_eq_false_iff_ne.2 h2, beq_eq_false_iff_ne.2 h5]
  cases he : e == 0 with
  | false => cases hi : i == 0 <;> cases u <;> cases w <;> cases x <;> cases k == 160 <;> cases k == 161 <;> cases k == 163 <;> rfl
  | true =>
    rw [z1 he]
    cases hi : i == 0 with
    | false => cases u <;> cases w <;> cases x <;> cases k == 160 <;> cases k == 161 <;> cases k == 163 <;> rfl
    | true =>
      rw [z2 hi]
      cases u <;> cases w <;> cases x <;> cases k == 160 <;> cases k == 161 <;> cases k == 163 <;> rfl
/-! ### jobs, agents -/
def jTries (j : Job) : Int := j.2.2.2.2.2.2.2.2.2.2.2.2.2.2.2.2.2.2.2.2
def jAt (j : Job) : Int := j.2.2.2.2.2.2.2.2.2.2.2.2.2.2.2.2.2.2.2.1
noncomputable def pJob (j : Job) : Bool := pIn j.2.2.1 0 2 && (pIn (jAt j) 0 (j.2.2.2.2.2.2.2.1.length : Int) && (pIn (jTries j) 0 3 && (j.2.2.1 == 0 || (pPdu (jP j) && ((j.2.2.2.1 != 162) && pBridge (jB j))))))
structure JWf (j : Job) : Prop where
  p : PLe M (jP j)
  b : BWf (jB j)
theorem jobT {j : Job} (h : JWf j) : impl_jobOk j = some (pJob j) := by
  have hp : impl_PduOk (j.2.2.2.1, j.2.2.2.2.1, j.2.2.2.2.2.1, j.2.2.2.2.2.2.1, j.2.2.2.2.2.2.2.1) = some (pPdu (jP j)) := pduT h.p
  have hb := bridgeT h.b
  unfold jB at hb
  unfold impl_jobOk pJob
  rw [hp, hb]
  simp only [inT, Option.bind_some, jAt, jTries]
  cases pIn j.2.2.1 0 2 <;> cases pIn j.2.2.2.2.2.2.2.2.2.2.2.2.2.2.2.2.2.2.2.1 0 (j.2.2.2.2.2.2.2.1.length : Int) <;> cases pIn j.2.2.2.2.2.2.2.2.2.2.2.2.2.2.2.2.2.2.2.2 0 3 <;> cases j.2.2.1 == 0 <;> cases pPdu (jP j) <;> cases j.2.2.2.1 != 162 <;> rfl
theorem jobS {j : Job} (h : JWf j) (last : Int) : spec_l20Job j last = some (pIn j.1 1 last && pJob j) := by
  have hp : spec_PduOk (j.2.2.2.1, j.2.2.2.2.1, j.2.2.2.2.2.1, j.2.2.2.2.2.2.1, j.2.2.2.2.2.2.2.1) = some (pPdu (jP j)) := pduS h.p
  have hb := bridgeS h.b
  unfold jB at hb
  unfold spec_l20Job spec_l20Asks pJob
  rw [hp, hb]
  simp only [inS, Option.bind_some, jAt, jTries]
  cases pIn j.1 1 last <;> cases pIn j.2.2.1 0 2 <;> cases pIn j.2.2.2.2.2.2.2.2.2.2.2.2.2.2.2.2.2.2.2.1 0 (j.2.2.2.2.2.2.2.1.length : Int) <;> cases pIn j.2.2.2.2.2.2.2.2.2.2.2.2.2.2.2.2.2.2.2.2 0 3 <;> cases j.2.2.1 == 0 <;> cases pPdu (jP j) <;> cases j.2.2.2.1 != 162 <;> rfl
def aJobs (a : Agent) : List Job := a.2.2.2.2.2.2.2.2.2.2.2.2.1
def aLast (a : Agent) : Int := a.2.2.2.2.2.2.2.2.2.2.2.2.2.2
def aLost (a : Agent) : Int := a.2.2.2.2.2.2.2.2.2.2.2.2.2.1
noncomputable def bJob (l : List Job) (last : Int) (k : Nat) : Bool := match l[k]? with
  | some j => !(pIn j.1 1 last && pJob j) || (decide (0 < k) && (match l[k - 1]? with | some p => decide (p.1 ≥ j.1) | none => false))
  | none => false
noncomputable def pAgent (a : Agent) : Bool := !((List.range (aJobs a).length).any (bJob (aJobs a) (aLast a))) && (pBridge (aB a) && (decide ((a.2.2.2.2.2.2.2.2.2.2.2.1.length : Int) ≤ 20) && (decide (((aJobs a).length : Int) ≤ 6) && (pIn (aLost a) 0 1000000 && pIn (aLast a) 0 1000000))))
structure AWf (a : Agent) : Prop where
  b : BWf (aB a)
  n : (aJobs a).length ≤ 1048576
  j : ∀ x ∈ aJobs a, JWf x
theorem agent_loop {a : Agent} (h : AWf a) : loop (fun z => impl_AgentOk_l0 a z) 0 = some (cond ((List.range (aJobs a).length).any (bJob (aJobs a) (aLast a))) (Sum.inr false) (Sum.inl ())) := by
  have hn := h.n
  rw [← all_loop (n := (aJobs a).length) (c := fun i => (at? (aJobs a) i).bind fun x => (impl_in x.1 1 (aLast a)).bind fun t => (cond (!t) (some true) ((cond (decide (i > 0)) ((at? (aJobs a) (w64 (i - 1))).bind fun y => some (decide (y.1 ≥ x.1))) (some false)).bind fun t => some t)).bind fun t => (cond t (some true) ((impl_jobOk x).bind fun t => some (!t))).bind fun t => some t) (b := bJob (aJobs a) (aLast a)) (by omega) (fun k hk => by
    simp only [at_nat hk, Option.bind_some, inT, jobT (h.j _ (List.getElem_mem hk)), bJob, List.getElem?_eq_getElem hk]
    by_cases h0 : 0 < k
    · have hd : decide ((k : Int) > 0) = true := decide_eq_true (by omega)
      simp only [hd, prev_at hk h0 (by omega), Option.bind_some, decide_eq_true h0, List.getElem?_eq_getElem (show k - 1 < (aJobs a).length by omega), cond_true]
      cases pIn (aJobs a)[k].1 1 (aLast a) <;> cases decide ((aJobs a)[k - 1].1 ≥ (aJobs a)[k].1) <;> cases pJob (aJobs a)[k] <;> rfl
    · have hd : decide ((k : Int) > 0) = false := decide_eq_false (by omega)
      simp only [hd, decide_eq_false h0]
      cases pIn (aJobs a)[k].1 1 (aLast a) <;> cases pJob (aJobs a)[k] <;> rfl)]
  refine loop_ext (fun i => ?_) 0
  unfold impl_AgentOk_l0 aJobs aLast
  simp only [Option.bind_assoc, Option.bind_some]
theorem agent_loopS {a : Agent} (h : AWf a) : loop (fun z => spec_AgentOk_l0 a z) 0 = some (cond ((List.range (aJobs a).length).any (bJob (aJobs a) (aLast a))) (Sum.inr false) (Sum.inl ())) := by
  have hn := h.n
  rw [← all_loop (n := (aJobs a).length) (c := fun i => (at? (aJobs a) i).bind fun x => (spec_l20Job x (aLast a)).bind fun t => (cond (!t) (some true) ((cond (decide (i > 0)) ((at? (aJobs a) (w64 (i - 1))).bind fun y => (at? (aJobs a) i).bind fun x => some (decide (y.1 ≥ x.1))) (some false)).bind fun t => some t))) (b := bJob (aJobs a) (aLast a)) (by omega) (fun k hk => by
    simp only [at_nat hk, Option.bind_some, jobS (h.j _ (List.getElem_mem hk)), bJob, List.getElem?_eq_getElem hk]
    by_cases h0 : 0 < k
    · have hd : decide ((k : Int) > 0) = true := decide_eq_true (by omega)
      simp only [hd, prev_at hk h0 (by omega), Option.bind_some, decide_eq_true h0, List.getElem?_eq_getElem (show k - 1 < (aJobs a).length by omega), cond_true]
      cases pIn (aJobs a)[k].1 1 (aLast a) <;> cases decide ((aJobs a)[k - 1].1 ≥ (aJobs a)[k].1) <;> cases pJob (aJobs a)[k] <;> rfl
    · have hd : decide ((k : Int) > 0) = false := decide_eq_false (by omega)
      simp only [hd, decide_eq_false h0]
      cases pIn (aJobs a)[k].1 1 (aLast a) <;> cases pJob (aJobs a)[k] <;> rfl)]
  refine loop_ext (fun i => ?_) 0
  unfold spec_AgentOk_l0 aJobs aLast
  simp only [Option.bind_assoc, Option.bind_some]
theorem gtNot (n m : Int) : decide (n > m) = !(decide (n ≤ m)) := by
  by_cases h : n ≤ m
  · rw [decide_eq_true h, decide_eq_false (by omega)]; rfl
  · rw [decide_eq_false h, decide_eq_true (by omega)]; rfl
theorem agentT {a : Agent} (h : AWf a) : impl_AgentOk a = some (pAgent a) := by
  have hb : impl_BridgeOk (a.1, a.2.1, a.2.2.1, a.2.2.2.1, a.2.2.2.2.1, a.2.2.2.2.2.1, a.2.2.2.2.2.2.1, a.2.2.2.2.2.2.2.1, a.2.2.2.2.2.2.2.2.1, a.2.2.2.2.2.2.2.2.2.1, a.2.2.2.2.2.2.2.2.2.2.1) = some (pBridge (aB a)) := bridgeT h.b
  unfold impl_AgentOk pAgent
  rw [agent_loop h, hb]
  simp only [countT, Option.bind_some, gtNot, aLost, aLast]
  generalize (List.range (aJobs a).length).any _ = u
  show _ = some (!u && (pBridge (aB a) && (_ && (decide ((a.2.2.2.2.2.2.2.2.2.2.2.2.1.length : Int) ≤ 6) && (_)))))
  cases u <;> cases pBridge (aB a) <;> cases decide ((a.2.2.2.2.2.2.2.2.2.2.2.1.length : Int) ≤ 20) <;> cases decide ((a.2.2.2.2.2.2.2.2.2.2.2.2.1.length : Int) ≤ 6) <;> cases pIn a.2.2.2.2.2.2.2.2.2.2.2.2.2.1 0 1000000 <;> cases pIn a.2.2.2.2.2.2.2.2.2.2.2.2.2.2 0 1000000 <;> rfl
theorem agentS {a : Agent} (h : AWf a) : spec_AgentOk a = some (pAgent a) := by
  have hb : spec_BridgeOk (a.1, a.2.1, a.2.2.1, a.2.2.2.1, a.2.2.2.2.1, a.2.2.2.2.2.1, a.2.2.2.2.2.2.1, a.2.2.2.2.2.2.2.1, a.2.2.2.2.2.2.2.2.1, a.2.2.2.2.2.2.2.2.2.1, a.2.2.2.2.2.2.2.2.2.2.1) = some (pBridge (aB a)) := bridgeS h.b
  unfold spec_AgentOk pAgent
  rw [agent_loopS h, hb]
  simp only [inS, Option.bind_some, aLost, aLast]
  generalize (List.range (aJobs a).length).any _ = u
  show _ = some (!u && (pBridge (aB a) && (_ && (decide ((a.2.2.2.2.2.2.2.2.2.2.2.2.1.length : Int) ≤ 6) && (_)))))
  cases u <;> cases pBridge (aB a) <;> cases decide ((a.2.2.2.2.2.2.2.2.2.2.2.1.length : Int) ≤ 20) <;> cases decide ((a.2.2.2.2.2.2.2.2.2.2.2.2.1.length : Int) ≤ 6) <;> cases pIn a.2.2.2.2.2.2.2.2.2.2.2.2.2.1 0 1000000 <;> cases pIn a.2.2.2.2.2.2.2.2.2.2.2.2.2.2 0 1000000 <;> rfl
theorem job_jwf {j : Job} (h : Cs.wf cJob j) (hl : JLe M j) : JWf j := by
  obtain ⟨_, l1, l2⟩ := hl
  refine ⟨l1, ?_⟩
  obtain ⟨_, l2, l3, l4, l5⟩ := l2
  have hM : M < 9223372036854775807 := by decide
  refine ⟨by omega, by omega, by omega, by omega, fun r hr => ?_⟩
  simp only [cJob, Cs.wf, CT.wf] at h
  obtain ⟨_, _, _, _, _, _, _, _, _, _, _, _, h4, _⟩ := h
  exact (h4.2 r hr).2.2
theorem agent_awf {a : Agent} (h : Cs.wf cAgent a) (hl : ALe M a) : AWf a := by
  obtain ⟨⟨_, l2, l3, l4, l5⟩, l6, l7⟩ := hl
  have hM : M < 9223372036854775807 := by decide
  simp only [cAgent, Cs.wf, CT.wf] at h
  obtain ⟨_, _, _, _, h4, _, _, _, _, _, _, _, h7, _⟩ := h
  refine ⟨⟨by omega, by omega, by omega, by omega, fun r hr => (h4.2 r hr).2.2⟩, l7.1, fun x hx => job_jwf ?_ (l7.2 x hx)⟩
  have := h7.2 x hx
  simpa only [cJob, Cs.wf, CT.wf] using this
set_option linter.unusedVariables false
set_option linter.unusedSimpArgs false
/-! ### an agent copied -/
theorem copy_loop {α : Type} {l : List α} {step : Int × List α → Option ((Int × List α) ⊕ List α)} (hn : l.length ≤ M)
    (hs : ∀ k (hk : k < l.length) out, step ((k : Int), out) = (app out [l[k]]).bind fun zs => some (.inl (((k + 1 : Nat) : Int), zs)))
    (he : ∀ out, step ((l.length : Int), out) = some (.inr out)) : loop step (0, []) = some l := by
  have hn' : l.length ≤ 1048576 := hn
  obtain ⟨b, h1, rfl⟩ := loop_inv (step := step) (fun k z => z = ((k : Int), l.take k)) l.length (fun b => b = l)
    (fun k z hk e => by
      subst e
      left
      refine ⟨_, by rw [hs k hk, app_small (by rw [List.length_take]; show _ + 1 ≤ _; omega), Option.bind_some], ?_⟩
      rw [List.take_add_one, List.getElem?_eq_getElem hk]; rfl)
    (fun z e => by
      subst e
      exact ⟨_, he _, by rw [List.take_length]⟩) (x := (0, [])) rfl
  exact h1
set_option linter.unusedVariables false
set_option linter.unusedSimpArgs false
theorem rowAtM {v : Vtab} (hn : v.1.length < 9223372036854775807) {x : Vrow} (hx : x ∈ v.1) : ∃ r, impl_RowAt v x.1 = some r ∧ ¬ r < 0 := by
  unfold impl_RowAt
  obtain ⟨b, h1, h2⟩ := loop_inv (β := Unit ⊕ Int) (step := fun z => impl_RowAt_l0 v x.1 z) (fun k i => i = (k : Int) ∧ ∀ y ∈ v.1.take k, y.1 ≠ x.1) v.1.length (fun b => ∃ k : Nat, b = .inr (k : Int))
    (fun k i hk ⟨h, hy⟩ => by
      subst h
      unfold impl_RowAt_l0
      rw [dlt (by omega), cond_true, at_nat hk, Option.bind_some]
      cases hb : (v.1[k].1 == x.1) with
      | true => exact .inr ⟨_, rfl, k, rfl⟩
      | false =>
        refine .inl ⟨_, rfl, w64_nat (by omega), fun y hy' => ?_⟩
        rw [List.take_add_one, List.getElem?_eq_getElem hk, List.mem_append] at hy'
        rcases hy' with hy' | hy'
        · exact hy y hy'
        · simp at hy'; subst hy'; exact beq_eq_false_iff_ne.1 hb)
    (fun i ⟨h, hy⟩ => by
      rw [List.take_length] at hy
      exact absurd rfl (hy x hx)) (x := 0) ⟨rfl, by simp⟩
  obtain ⟨k, rfl⟩ := h2
  rw [h1, Option.bind_some]
  exact ⟨(k : Int), rfl, by omega⟩
/-- The names that can be set. -/
inductive CanSet (b : Bridge) : List Int → Prop
  | name : CanSet b [1, 3, 1, 1, 1]
  | cost {k : Int} (h : pIn k 1 (b.2.2.1.length : Int) = true) : CanSet b [1, 3, 1, 2, 2, k]
  | pvid {k : Int} (h : pIn k 1 (b.2.2.1.length : Int) = true) : CanSet b [1, 3, 1, 2, 4, k]
  | row {k : Int} (h : pIn k 1 99 = true) : CanSet b [1, 3, 1, 3, 1, k]
  | bits {c k : Int} (hc : c = 2 ∨ c = 3) (h : pIn k 1 99 = true) (hr : ∃ x ∈ b.2.2.2.2.1, x.1 = k) : CanSet b [1, 3, 1, 3, c, k]
/-- The names that can be read alone. -/
inductive CanRead (b : Bridge) : List Int → Prop
  | count {k : Int} (h : pIn k 2 5 = true) : CanRead b [1, 3, 1, 1, k]
  | port {c k : Int} (hc : c = 1 ∨ c = 3) (h : pIn k 1 (b.2.2.1.length : Int) = true) : CanRead b [1, 3, 1, 2, c, k]
  | fdb {e : Fent} (he : e ∈ b.2.2.2.1) : CanRead b [1, 3, 1, 4, 1, e.1, e.2.1]
theorem all_same {n : Nat} {step : Int → Option (Int ⊕ (Unit ⊕ Bool))} (h : ∀ k, k < n → step (k : Int) = some (.inl ((k + 1 : Nat) : Int))) (he : step (n : Int) = some (.inr (.inl ()))) : loop step 0 = some (.inl ()) := by
  obtain ⟨v, e, rfl⟩ := loop_inv (step := step) (fun k i => i = (k : Int)) n (fun v => v = .inl ()) (fun k i hk e => by subst e; exact .inl ⟨_, h k hk, rfl⟩) (fun i e => by subst e; exact ⟨_, he, rfl⟩) (x := 0) rfl
  exact e
set_option linter.unusedVariables false
set_option linter.unusedSimpArgs false
/-! ### numbers as bytes -/
def clip (n : Int) : Int := if n > 2147483647 then 2147483647 else if n < -2147483648 then -2147483648 else n
theorem clip_in (n : Int) : -2147483648 ≤ clip n ∧ clip n ≤ 2147483647 := by unfold clip; split <;> (try split) <;> omega
def intB (m : Int) : List Int := if pIn m (-128) 127 then [m % 256] else if pIn m (-32768) 32767 then [m / 256 % 256, m % 256] else if pIn m (-8388608) 8388607 then [m / 65536 % 256, m / 256 % 256, m % 256] else [m / 16777216 % 256, m / 65536 % 256, m / 256 % 256, m % 256]
theorem w8 (x : Int) : IntKind.u8.wrap x = x % 256 := rfl
theorem fd (m : Int) {k : Int} (hk : 0 ≤ k) : m.fdiv k = m / k := Int.fdiv_eq_ediv_of_nonneg m hk
theorem loop_end {α β : Type} {step : α → Option (α ⊕ β)} {x : α} {b : β} (h : step x = some (.inr b)) : loop step x = some b := loop_of (k := 1) (by rw [iter_succ, h]; rfl)
theorem loop_in {α β : Type} {step : α → Option (α ⊕ β)} {x y : α} {b : β} (h : step x = some (.inl y)) (k : loop step y = some b) : loop step x = some b := by
  obtain ⟨n, hn⟩ := loop_some k
  exact loop_of (k := n + 1) (by rw [iter_succ, h]; exact hn)
theorem putInt {n : Int} (hn : -9223372036854775808 ≤ n ∧ n ≤ 9223372036854775807) : impl_PutInt n = some (intB (clip n)) := by
  unfold impl_PutInt
  have hc : max2 (-2147483648) (min2 n 2147483647) = clip n := by
    unfold max2 min2 clip
    split <;> split <;> (try split) <;> (try split) <;> omega
  rw [hc]
  obtain ⟨h1, h2⟩ := clip_in n
  generalize clip n = m at h1 h2
  simp only
  have a1 : impl_PutInt_l0 m 1 = cond (!(pIn m (-128) 127)) (some (.inl 2)) (some (.inr 1)) := by
    unfold impl_PutInt_l0
    rw [show shl .i64 (-1) (w64 ((w64 (8 * 1)) - 1)) = some (-128) from rfl, show shl .i64 1 (w64 ((w64 (8 * 1)) - 1)) = some 128 from rfl]
    simp only [Option.bind_some, inT]
    rw [show w64 (128 - 1) = 127 from rfl]; cases pIn m (-128) 127 <;> rfl
  have a2 : impl_PutInt_l0 m 2 = cond (!(pIn m (-32768) 32767)) (some (.inl 3)) (some (.inr 2)) := by
    unfold impl_PutInt_l0
    rw [show shl .i64 (-1) (w64 ((w64 (8 * 2)) - 1)) = some (-32768) from rfl, show shl .i64 1 (w64 ((w64 (8 * 2)) - 1)) = some 32768 from rfl]
    simp only [Option.bind_some, inT]
    rw [show w64 (32768 - 1) = 32767 from rfl]; cases pIn m (-32768) 32767 <;> rfl
  have a3 : impl_PutInt_l0 m 3 = cond (!(pIn m (-8388608) 8388607)) (some (.inl 4)) (some (.inr 3)) := by
    unfold impl_PutInt_l0
    rw [show shl .i64 (-1) (w64 ((w64 (8 * 3)) - 1)) = some (-8388608) from rfl, show shl .i64 1 (w64 ((w64 (8 * 3)) - 1)) = some 8388608 from rfl]
    simp only [Option.bind_some, inT]
    rw [show w64 (8388608 - 1) = 8388607 from rfl]; cases pIn m (-8388608) 8388607 <;> rfl
  have a4 : impl_PutInt_l0 m 4 = some (.inr 4) := rfl
  have b3 : ∀ out : List Int, out.length ≤ 10 → impl_PutInt_l2 m 3 out = some (.inl (2, out ++ [m / 16777216 % 256])) := fun out ho => by
    unfold impl_PutInt_l2
    rw [show shr .i64 m (w64 (8 * 3)) = some (m.fdiv (2 ^ 24)) from rfl, Option.bind_some, app_small (by simp; omega), Option.bind_some, w8, fd m (by decide)]; rfl
  have b2 : ∀ out : List Int, out.length ≤ 10 → impl_PutInt_l2 m 2 out = some (.inl (1, out ++ [m / 65536 % 256])) := fun out ho => by
    unfold impl_PutInt_l2
    rw [show shr .i64 m (w64 (8 * 2)) = some (m.fdiv (2 ^ 16)) from rfl, Option.bind_some, app_small (by simp; omega), Option.bind_some, w8, fd m (by decide)]; rfl
  have b1 : ∀ out : List Int, out.length ≤ 10 → impl_PutInt_l2 m 1 out = some (.inl (0, out ++ [m / 256 % 256])) := fun out ho => by
    unfold impl_PutInt_l2
    rw [show shr .i64 m (w64 (8 * 1)) = some (m.fdiv (2 ^ 8)) from rfl, Option.bind_some, app_small (by simp; omega), Option.bind_some, w8, fd m (by decide)]; rfl
  have b0 : ∀ out : List Int, out.length ≤ 10 → impl_PutInt_l2 m 0 out = some (.inl (-1, out ++ [m % 256])) := fun out ho => by
    unfold impl_PutInt_l2
    rw [show shr .i64 m (w64 (8 * 0)) = some (m.fdiv (2 ^ 0)) from rfl, Option.bind_some, app_small (by simp; omega), Option.bind_some, w8, fd m (by decide)]
    simp
    rfl
  have be : ∀ out : List Int, impl_PutInt_l2 m (-1) out = some (.inr out) := fun out => rfl
  have c0 : ∀ out : List Int, out.length ≤ 9 → loop (fun z : Int × List Int => impl_PutInt_l2 m z.1 z.2) (0, out) = some (out ++ [m % 256]) := fun out ho => loop_in (b0 out (by omega)) (loop_end (be _))
  have c1 : ∀ out : List Int, out.length ≤ 8 → loop (fun z : Int × List Int => impl_PutInt_l2 m z.1 z.2) (1, out) = some (out ++ [m / 256 % 256] ++ [m % 256]) := fun out ho => loop_in (b1 out (by omega)) (c0 _ (by simp; omega))
  have c2 : ∀ out : List Int, out.length ≤ 7 → loop (fun z : Int × List Int => impl_PutInt_l2 m z.1 z.2) (2, out) = some (out ++ [m / 65536 % 256] ++ [m / 256 % 256] ++ [m % 256]) := fun out ho => loop_in (b2 out (by omega)) (c1 _ (by simp; omega))
  have c3 : ∀ out : List Int, out.length ≤ 6 → loop (fun z : Int × List Int => impl_PutInt_l2 m z.1 z.2) (3, out) = some (out ++ [m / 16777216 % 256] ++ [m / 65536 % 256] ++ [m / 256 % 256] ++ [m % 256]) := fun out ho => loop_in (b3 out (by omega)) (c2 _ (by simp; omega))
  unfold intB
  cases h8 : pIn m (-128) 127 with
  | true =>
    rw [h8] at a1
    rw [loop_end (step := fun z => impl_PutInt_l0 m z) a1, Option.bind_some, show w64 (1 - 1) = 0 from rfl, c0 [] (by simp)]; rfl
  | false =>
    rw [h8] at a1
    cases h16 : pIn m (-32768) 32767 with
    | true =>
      rw [h16] at a2
      rw [loop_in (step := fun z => impl_PutInt_l0 m z) a1 (loop_end a2), Option.bind_some, show w64 (2 - 1) = 1 from rfl, c1 [] (by simp)]; rfl
    | false =>
      rw [h16] at a2
      cases h24 : pIn m (-8388608) 8388607 with
      | true =>
        rw [h24] at a3
        rw [loop_in (step := fun z => impl_PutInt_l0 m z) a1 (loop_in a2 (loop_end a3)), Option.bind_some, show w64 (3 - 1) = 2 from rfl, c2 [] (by simp)]; rfl
      | false =>
        rw [h24] at a3
        rw [loop_in (step := fun z => impl_PutInt_l0 m z) a1 (loop_in a2 (loop_in a3 (loop_end a4))), Option.bind_some, show w64 (4 - 1) = 3 from rfl, c3 [] (by simp)]; rfl
theorem pIn_false {n a b : Int} (h : pIn n a b = false) : n < a ∨ n > b := by
  unfold pIn at h
  simp only [Bool.and_eq_false_iff, decide_eq_false_iff_not] at h
  omega
theorem pIn_true {n a b : Int} (h : pIn n a b = true) : a ≤ n ∧ n ≤ b := by
  unfold pIn at h
  simp only [Bool.and_eq_true, decide_eq_true_eq] at h
  omega
theorem putIntS {n : Int} : spec_PutInt n = some (intB (clip n)) := by
  unfold spec_PutInt
  have hc : spec_l1Clip n = some (clip n) := by
    unfold spec_l1Clip clip
    by_cases h1 : n > 2147483647
    · rw [decide_eq_true h1, cond_true, if_pos h1]
    · rw [decide_eq_false h1, cond_false, if_neg h1]
      by_cases h2 : n < -2147483648
      · rw [decide_eq_true h2, cond_true, if_pos h2]
      · rw [decide_eq_false h2, cond_false, if_neg h2]
  rw [hc, Option.bind_some]
  obtain ⟨h1, h2⟩ := clip_in n
  generalize clip n = m at h1 h2
  have st : ∀ (x : Int) (out : List Int), out.length ≤ 10 → spec_PutInt_l0 x out = cond (pIn x (-128) 127) (some (.inr out)) (some (.inl (x / 256, x / 256 % 256 :: out))) := fun x out ho => by
    unfold spec_PutInt_l0
    have e : (cond (decide (x < (-128))) (some true) (some (decide (x > 127)))) = some (!(pIn x (-128) 127)) := by
      unfold pIn
      by_cases h1 : x < -128
      · rw [decide_eq_true h1, cond_true, decide_eq_false (show ¬ x ≥ -128 by omega)]; rfl
      · rw [decide_eq_false h1, cond_false, decide_eq_true (show x ≥ -128 by omega)]
        by_cases h2 : x > 127
        · rw [decide_eq_true h2, decide_eq_false (show ¬ x ≤ 127 by omega)]; rfl
        · rw [decide_eq_false h2, decide_eq_true (show x ≤ 127 by omega)]; rfl
    rw [e, Option.bind_some, app_small (by simp; omega), Option.bind_some, w8, fd x (by decide)]
    cases pIn x (-128) 127 <;> rfl
  rw [w8]
  have goes : ∀ (x : Int) (out : List Int), out.length ≤ 9 → pIn x (-128) 127 = true → loop (fun z : Int × List Int => spec_PutInt_l0 z.1 z.2) (x, out) = some out := fun x out ho h => loop_end (by show spec_PutInt_l0 x out = _; rw [st x out (by omega), h]; rfl)
  have more : ∀ (x : Int) (out r : List Int), out.length ≤ 9 → pIn x (-128) 127 = false → loop (fun z : Int × List Int => spec_PutInt_l0 z.1 z.2) (x / 256, x / 256 % 256 :: out) = some r → loop (fun z : Int × List Int => spec_PutInt_l0 z.1 z.2) (x, out) = some r := fun x out r ho h k => loop_in (by show spec_PutInt_l0 x out = _; rw [st x out (by omega), h]; rfl) k
  have inn : ∀ (x a b : Int), a ≤ x → x ≤ b → pIn x a b = true := fun x a b h1 h2 => by unfold pIn; rw [decide_eq_true h1, decide_eq_true h2]; rfl
  have outn : ∀ (x a b : Int), (x < a ∨ x > b) → pIn x a b = false := fun x a b h => by
    unfold pIn
    simp only [Bool.and_eq_false_iff, decide_eq_false_iff_not]; omega
  unfold intB
  cases h8 : pIn m (-128) 127 with
  | true => rw [goes m _ (by simp) h8]; rfl
  | false =>
    have k8 := pIn_false h8
    cases h16 : pIn m (-32768) 32767 with
    | true =>
      have k16 := pIn_true h16
      rw [more m _ _ (by simp) h8 (goes (m / 256) _ (by simp) (inn _ _ _ (by omega) (by omega)))]; rfl
    | false =>
      have k16 := pIn_false h16
      cases h24 : pIn m (-8388608) 8388607 with
      | true =>
        have k24 := pIn_true h24
        rw [more m _ _ (by simp) h8 (more (m / 256) _ _ (by simp) (outn _ _ _ (by omega)) (goes (m / 256 / 256) _ (by simp) (inn _ _ _ (by omega) (by omega))))]
        rw [show m / 256 / 256 = m / 65536 by omega]; rfl
      | false =>
        have k24 := pIn_false h24
        rw [more m _ _ (by simp) h8 (more (m / 256) _ _ (by simp) (outn _ _ _ (by omega)) (more (m / 256 / 256) _ _ (by simp) (outn _ _ _ (by omega)) (goes (m / 256 / 256 / 256) _ (by simp) (inn _ _ _ (by omega) (by omega)))))]
        rw [show m / 256 / 256 = m / 65536 by omega, show m / 65536 / 256 = m / 16777216 by omega]; rfl

set_option linter.unusedVariables false
set_option linter.unusedSimpArgs false
/-! ### parts -/
def Byt (b : List Int) : Prop := ∀ x ∈ b, 0 ≤ x ∧ x ≤ 255
def tlvL (t : Int) (body : List Int) : List Int := t :: ((if body.length ≥ 128 then [129, (body.length : Int)] else [(body.length : Int)]) ++ body)
theorem tlvX (t : Int) {body : List Int} (hn : body.length ≤ M) : impl_tlv t body = some (if pIn t 0 255 = true ∧ body.length ≤ 250 then (tlvL t body, true) else ([], false)) := by
  have hn' : body.length ≤ 1048576 := hn
  unfold impl_tlv
  rw [inT, Option.bind_some]
  cases ht : pIn t 0 255 with
  | false => rw [if_neg (by simp)]; rfl
  | true =>
    obtain ⟨t1, t2⟩ := pIn_true ht
    rw [Bool.not_true, cond_false, Option.bind_some]
    by_cases h : (body.length : Int) > 250
    · rw [decide_eq_true h, cond_true, if_neg (by omega)]
    · rw [decide_eq_false h, cond_false, if_pos ⟨rfl, by omega⟩]
      unfold tlvL
      have e1 : IntKind.u8.wrap t = t := by rw [w8]; omega
      have e2 : IntKind.u8.wrap (body.length : Int) = (body.length : Int) := by rw [w8]; omega
      by_cases h8 : (body.length : Int) ≥ 128
      · rw [decide_eq_true h8, cond_true, app_small (by simp), Option.bind_some, app_small (by simp), Option.bind_some, app_small (by simp; omega), Option.bind_some, if_pos (by omega), e1, e2]; rfl
      · rw [decide_eq_false h8, cond_false, app_small (by simp), Option.bind_some, app_small (by simp; omega), Option.bind_some, if_neg (by omega), e1, e2]; rfl
theorem putTlv {b : List Int} (t : Int) {body : List Int} (hb : b.length ≤ 1000) (hn : body.length ≤ M) : impl_PutTlv b t body = some (b ++ if pIn t 0 255 = true ∧ body.length ≤ 250 then tlvL t body else []) := by
  unfold impl_PutTlv
  have hM : M = 1048576 := rfl
  rw [tlvX t hn, Option.bind_some, copyBytes (by omega), Option.bind_some]
  split
  · next h =>
    have : (tlvL t body).length ≤ 300 := by unfold tlvL; split <;> simp <;> omega
    rw [app_small (by show b.length + (tlvL t body).length ≤ _; omega)]; rfl
  · rw [app_small (by show b.length + 0 ≤ _; omega)]; rfl
theorem at_pre {α : Type} (pre l : List α) (j : Nat) : at? (pre ++ l) ((pre.length + j : Nat) : Int) = at? l (j : Int) := by
  unfold at?
  rw [if_pos (by omega), if_pos (by omega), Int.toNat_natCast, Int.toNat_natCast, List.getElem?_append_right (by omega), Nat.add_sub_cancel_left]
theorem cut_pre {α : Type} (pre l : List α) (i j : Nat) (h : i ≤ j) (hj : j ≤ l.length) : cut (pre ++ l) ((pre.length + i : Nat) : Int) ((pre.length + j : Nat) : Int) = some ((l.take j).drop i) := by
  rw [cut_ok (by omega) (by rw [List.length_append]; omega), List.take_append, List.take_of_length_le (by omega), List.drop_append, List.drop_of_length_le (by omega), Nat.add_sub_cancel_left, Nat.add_sub_cancel_left, List.nil_append]
structure Part (b : List Int) (at' : Int) (t : Int) (body : List Int) (next : Int) : Prop where
  ex : ∃ pre rest, b = pre ++ (tlvL t body ++ rest) ∧ at' = (pre.length : Int) ∧ next = ((pre.length + (tlvL t body).length : Nat) : Int)
  n : body.length ≤ 250
  t : pIn t 0 255 = true
  b : Byt body
theorem getTlv {b : List Int} (hb : Byt b) (hn : b.length ≤ M) {i : Int} (hi : -9223372036854775808 ≤ i ∧ i ≤ 9223372036854775807) : ∃ r, impl_GetTlv b i = some r ∧ spec_GetTlv b i = some r ∧ (r = (0, [], 0, false) ∨ ∃ t body next, r = (t, body, next, true) ∧ Part b i t body next) := by
  have hn' : b.length ≤ 1048576 := hn
  unfold impl_GetTlv spec_GetTlv
  rw [w64_id (show -9223372036854775808 ≤ (b.length : Int) - 2 by omega) (by omega)]
  by_cases h0 : i < 0
  · rw [decide_eq_true h0]
    exact ⟨_, rfl, rfl, .inl rfl⟩
  rw [decide_eq_false h0]
  by_cases h1 : i > (b.length : Int) - 2
  · rw [decide_eq_true h1]
    by_cases h2 : i ≥ (b.length : Int)
    · rw [decide_eq_true h2]
      exact ⟨_, rfl, rfl, .inl rfl⟩
    · rw [decide_eq_false h2, w64_id (by omega) (by omega), decide_eq_true (show i + 1 ≥ (b.length : Int) by omega)]
      exact ⟨_, rfl, rfl, .inl rfl⟩
  rw [decide_eq_false h1, decide_eq_false (show ¬ i ≥ (b.length : Int) by omega), w64_id (show -9223372036854775808 ≤ i + 1 by omega) (by omega), decide_eq_false (show ¬ i + 1 ≥ (b.length : Int) by omega), w64_id (show -9223372036854775808 ≤ i + 2 by omega) (by omega)]
  simp only [cond_false, Option.bind_some]
  obtain ⟨k, rfl⟩ : ∃ k : Nat, i = (k : Int) := ⟨i.toNat, by omega⟩
  have hk : k + 1 < b.length := by omega
  obtain ⟨pre, t, n0, rest, rfl, hp⟩ : ∃ pre t n0 rest, b = pre ++ (t :: n0 :: rest) ∧ pre.length = k := by
    refine ⟨b.take k, b[k], b[k + 1], b.drop (k + 2), ?_, by rw [List.length_take]; omega⟩
    have h1 := List.take_append_drop k b
    rw [List.drop_eq_getElem_cons (by omega), List.drop_eq_getElem_cons (by omega)] at h1
    exact h1.symm
  subst hp
  have ht : 0 ≤ t ∧ t ≤ 255 := hb t (by simp)
  have hn0 : 0 ≤ n0 ∧ n0 ≤ 255 := hb n0 (by simp)
  have hr : Byt rest := fun x hx => hb x (by simp [hx])
  have hlen : (pre ++ (t :: n0 :: rest)).length = pre.length + (rest.length + 2) := by simp
  have e0 : at? (pre ++ (t :: n0 :: rest)) (pre.length : Int) = some t := by have := at_pre pre (t :: n0 :: rest) 0; rw [Nat.add_zero] at this; rw [this]; rfl
  have e1 : at? (pre ++ (t :: n0 :: rest)) ((pre.length : Int) + 1) = some n0 := by have := at_pre pre (t :: n0 :: rest) 1; rw [show ((pre.length : Int) + 1) = ((pre.length + 1 : Nat) : Int) by omega, this]; rfl
  have e2 : at? (pre ++ (t :: n0 :: rest)) ((pre.length : Int) + 2) = at? rest 0 := by
    have := at_pre pre (t :: n0 :: rest) 2
    rw [show ((pre.length : Int) + 2) = ((pre.length + 2 : Nat) : Int) by omega, this]
    unfold at?; simp
  have wt : w64 t = t := w64_id (by omega) (by omega)
  have wn : w64 n0 = n0 := w64_id (by omega) (by omega)
  have pt : pIn t 0 255 = true := by unfold pIn; rw [decide_eq_true ht.1, decide_eq_true ht.2]; rfl
  rw [hlen] at hn'
  rw [hlen, e0, e1, e2]
  simp only [Option.bind_some, wt, wn]
  by_cases h8 : n0 ≥ 128
  · rw [decide_eq_true h8, decide_eq_true (show n0 > 127 by omega)]
    simp only [cond_true]
    by_cases h9 : n0 = 129
    · subst h9
      simp only [show ((129 : Int) != 129) = false from rfl, cond_false, Option.bind_some]
      cases rest with
      | nil =>
        rw [decide_eq_true (show (pre.length : Int) + 2 ≥ ((pre.length + (([] : List Int).length + 2) : Nat) : Int) by simp)]
        exact ⟨_, rfl, rfl, .inl rfl⟩
      | cons n1 r =>
        have hn1 : 0 ≤ n1 ∧ n1 ≤ 255 := hr n1 (by simp)
        have wn1 : w64 n1 = n1 := w64_id (by omega) (by omega)
        rw [List.length_cons] at hn' ⊢
        rw [decide_eq_false (show ¬ (pre.length : Int) + 2 ≥ ((pre.length + (r.length + 1 + 2) : Nat) : Int) by omega)]
        simp only [cond_false, Option.bind_some, show at? (n1 :: r) 0 = some n1 from rfl, wn1]
        by_cases h10 : n1 < 128
        · rw [decide_eq_true h10]
          exact ⟨_, rfl, rfl, .inl rfl⟩
        rw [decide_eq_false h10, w64_id (show -9223372036854775808 ≤ (pre.length : Int) + 2 + 1 by omega) (by omega), w64_id (show -9223372036854775808 ≤ ((pre.length + (r.length + 1 + 2) : Nat) : Int) - ((pre.length : Int) + 2 + 1) by omega) (by omega)]
        simp only [cond_false]
        by_cases h11 : n1 > 250
        · rw [decide_eq_true h11]
          exact ⟨_, rfl, rfl, .inl rfl⟩
        rw [decide_eq_false h11]
        simp only [cond_false, Option.bind_some]
        by_cases h12 : n1 > ((pre.length + (r.length + 1 + 2) : Nat) : Int) - ((pre.length : Int) + 2 + 1)
        · rw [decide_eq_true h12]
          exact ⟨_, rfl, rfl, .inl rfl⟩
        rw [decide_eq_false h12]
        simp only [cond_false]
        obtain ⟨m, rfl⟩ : ∃ m : Nat, n1 = (m : Int) := ⟨n1.toNat, by omega⟩
        have hcut : cut (pre ++ (t :: 129 :: (m : Int) :: r)) ((pre.length : Int) + 2 + 1) (w64 ((pre.length : Int) + 2 + 1 + (m : Int))) = some (r.take m) := by
          rw [w64_id (by omega) (by omega), show (pre.length : Int) + 2 + 1 + (m : Int) = ((pre.length + (3 + m) : Nat) : Int) by omega, show (pre.length : Int) + 2 + 1 = ((pre.length + 3 : Nat) : Int) by omega, cut_pre _ _ _ _ (by omega) (by simp; omega)]
          simp [Nat.add_comm 3 m]
        have hl : (r.take m).length = m := by rw [List.length_take]; omega
        rw [hcut, Option.bind_some, Option.bind_some, copyBytes (by show _ ≤ 1048576; omega), app_nil (by show _ ≤ 1048576; omega), Option.bind_some]
        refine ⟨_, rfl, rfl, .inr ⟨t, r.take m, w64 ((pre.length : Int) + 2 + 1 + (m : Int)), rfl, ⟨pre, r.drop m, ?_, rfl, ?_⟩, by omega, pt, fun x hx => hr x (List.mem_cons_of_mem _ (List.mem_of_mem_take hx))⟩⟩
        · unfold tlvL
          rw [hl, if_pos (by omega)]
          simp
        · unfold tlvL
          rw [hl, if_pos (by omega), w64_id (by omega) (by omega)]
          simp only [List.length_cons, List.length_append, List.length_nil, hl]; omega
    · rw [bne_iff_ne.2 h9]
      exact ⟨_, rfl, rfl, .inl rfl⟩
  · rw [decide_eq_false h8, decide_eq_false (show ¬ n0 > 127 by omega)]
    simp only [cond_false]
    rw [decide_eq_false (show ¬ n0 > 250 by omega), w64_id (show -9223372036854775808 ≤ ((pre.length + (rest.length + 2) : Nat) : Int) - ((pre.length : Int) + 2) by omega) (by omega)]
    simp only [cond_false, Option.bind_some]
    by_cases h12 : n0 > ((pre.length + (rest.length + 2) : Nat) : Int) - ((pre.length : Int) + 2)
    · rw [decide_eq_true h12]
      exact ⟨_, rfl, rfl, .inl rfl⟩
    rw [decide_eq_false h12]
    simp only [cond_false]
    obtain ⟨m, rfl⟩ : ∃ m : Nat, n0 = (m : Int) := ⟨n0.toNat, by omega⟩
    have hcut : cut (pre ++ (t :: (m : Int) :: rest)) ((pre.length : Int) + 2) (w64 ((pre.length : Int) + 2 + (m : Int))) = some (rest.take m) := by
      rw [w64_id (by omega) (by omega), show (pre.length : Int) + 2 + (m : Int) = ((pre.length + (2 + m) : Nat) : Int) by omega, show (pre.length : Int) + 2 = ((pre.length + 2 : Nat) : Int) by omega, cut_pre _ _ _ _ (by omega) (by simp; omega)]
      simp [Nat.add_comm 2 m]
    have hl : (rest.take m).length = m := by rw [List.length_take]; omega
    rw [hcut, Option.bind_some, Option.bind_some, copyBytes (by show _ ≤ 1048576; omega), app_nil (by show _ ≤ 1048576; omega), Option.bind_some]
    refine ⟨_, rfl, rfl, .inr ⟨t, rest.take m, w64 ((pre.length : Int) + 2 + (m : Int)), rfl, ⟨pre, rest.drop m, ?_, rfl, ?_⟩, by omega, pt, fun x hx => hr x (List.mem_of_mem_take hx)⟩⟩
    · unfold tlvL
      rw [hl, if_neg (by omega)]
      simp
    · unfold tlvL
      rw [hl, if_neg (by omega), w64_id (by omega) (by omega)]
      simp only [List.length_cons, List.length_append, List.length_nil, hl]; omega

set_option linter.unusedVariables false
set_option linter.unusedSimpArgs false
/-! ### numbers read -/
theorem borX {m x : Int} (hm : -1099511627776 ≤ m ∧ m ≤ 1099511627776) (hx : 0 ≤ x ∧ x ≤ 255) : bor .i64 (w64 (m * 2 ^ 8)) (w64 x) = m * 256 + x := by
  rw [show m * 2 ^ 8 = m * 256 from rfl, w64_id (show -9223372036854775808 ≤ m * 256 by omega) (by omega), w64_id (show -9223372036854775808 ≤ x by omega) (by omega)]
  show IntKind.i64.wrap (((BitVec.ofInt 64 (m * 256) ||| BitVec.ofInt 64 x).toNat : Nat) : Int) = _
  rw [BitVec.toNat_or, BitVec.toNat_ofInt, BitVec.toNat_ofInt]
  have h1 : ((m * 256) % ((2 ^ 64 : Nat) : Int)).toNat = 2 ^ 8 * (m % 72057594037927936).toNat := by
    have : ((2 ^ 64 : Nat) : Int) = 18446744073709551616 := by decide
    rw [this]; omega
  have h2 : (x % ((2 ^ 64 : Nat) : Int)).toNat = x.toNat := by
    have : ((2 ^ 64 : Nat) : Int) = 18446744073709551616 := by decide
    rw [this]; omega
  rw [h1, h2, ← Nat.two_pow_add_eq_or_of_lt (by show x.toNat < 2 ^ 8; omega)]
  show (let z := ((2 ^ 8 * (m % 72057594037927936).toNat + x.toNat : Nat) : Int) % 18446744073709551616; if (true && decide (z ≥ 9223372036854775808)) = true then z - 18446744073709551616 else z) = _
  simp only [Bool.true_and, decide_eq_true_eq]
  split <;> omega
def sgn (x : Int) : Int := if x > 127 then x - 256 else x
def foldI (n : Int) (l : List Int) : Int := l.foldl (fun n x => n * 256 + x) n
theorem foldI_in {n : Int} {l : List Int} (hn : -256 ≤ n ∧ n ≤ 256) (hl : Byt l) (h3 : l.length ≤ 3) : ∀ k, k ≤ l.length → -1099511627776 ≤ foldI n (l.take k) ∧ foldI n (l.take k) ≤ 1099511627776 := by
  match l, h3 with
  | [], _ => intro k hk; simp only [List.take_nil, foldI, List.foldl]; omega
  | [a], _ =>
    have ha := hl a (by simp)
    intro k hk
    match k with
    | 0 => simp only [List.take_zero, foldI, List.foldl]; omega
    | k + 1 => simp only [List.take_succ_cons, List.take_nil, foldI, List.foldl]; omega
  | [a, b], _ =>
    have ha := hl a (by simp)
    have hb := hl b (by simp)
    intro k hk
    match k with
    | 0 => simp only [List.take_zero, foldI, List.foldl]; omega
    | 1 => simp only [List.take_succ_cons, List.take_zero, foldI, List.foldl]; omega
    | k + 2 => simp only [List.take_succ_cons, List.take_nil, foldI, List.foldl]; omega
  | [a, b, c], _ =>
    have ha := hl a (by simp)
    have hb := hl b (by simp)
    have hc := hl c (by simp)
    intro k hk
    match k with
    | 0 => simp only [List.take_zero, foldI, List.foldl]; omega
    | 1 => simp only [List.take_succ_cons, List.take_zero, foldI, List.foldl]; omega
    | 2 => simp only [List.take_succ_cons, List.take_zero, foldI, List.foldl]; omega
    | k + 3 => simp only [List.take_succ_cons, List.take_nil, foldI, List.foldl]; omega
theorem int_loop {n : Int} {l : List Int} (hn : -256 ≤ n ∧ n ≤ 256) (hl : Byt l) (h3 : l.length ≤ 3) {off : Nat} (step : Int × Int → Option ((Int × Int) ⊕ Int)) (ho : off ≤ 1000)
    (hs : ∀ k (hk : k < l.length) m, step (m, ((off + k : Nat) : Int)) = some (.inl (bor .i64 (w64 (m * 2 ^ 8)) (w64 l[k]), ((off + (k + 1) : Nat) : Int))))
    (he : ∀ m, step (m, ((off + l.length : Nat) : Int)) = some (.inr m)) : loop step (n, (off : Int)) = some (foldI n l) := by
  obtain ⟨b, h1, rfl⟩ := loop_inv (step := step) (fun k z => z = (foldI n (l.take k), ((off + k : Nat) : Int))) l.length (fun b => b = foldI n l)
    (fun k z hk e => by
      subst e
      left
      refine ⟨_, hs k hk _, ?_⟩
      have ht : l.take (k + 1) = l.take k ++ [l[k]] := by rw [List.take_add_one, List.getElem?_eq_getElem hk]; rfl
      rw [borX (foldI_in hn hl h3 k (by omega)) (hl _ (List.getElem_mem hk)), ht]
      unfold foldI
      rw [List.foldl_append]; rfl)
    (fun z e => by
      subst e
      exact ⟨_, he _, by rw [List.take_length]⟩) (x := (n, (off : Int))) rfl
  exact h1
theorem intB_back {x0 : Int} {l : List Int} (hb : Byt (x0 :: l)) (h3 : l.length ≤ 3) : -2147483648 ≤ foldI (sgn x0) l ∧ foldI (sgn x0) l ≤ 2147483647 ∧ ((intB (foldI (sgn x0) l)).length = (x0 :: l).length → x0 :: l = intB (foldI (sgn x0) l)) := by
  have h0 := hb x0 (by simp)
  have hs : (sgn x0 = x0 ∧ x0 ≤ 127) ∨ (sgn x0 = x0 - 256 ∧ 128 ≤ x0) := by unfold sgn; split <;> omega
  generalize sgn x0 = s at hs
  match l, h3 with
  | [], _ =>
    simp only [foldI, List.foldl]
    refine ⟨by omega, by omega, fun _ => ?_⟩
    have : pIn s (-128) 127 = true := by unfold pIn; rw [decide_eq_true (by omega), decide_eq_true (by omega)]; rfl
    unfold intB
    rw [if_pos this, show s % 256 = x0 by omega]
  | [a], _ =>
    have ha := hb a (by simp)
    simp only [foldI, List.foldl]
    refine ⟨by omega, by omega, fun h => ?_⟩
    unfold intB at h ⊢
    split at h
    · simp at h
    · split at h
      · next h1 h2 => rw [if_neg h1, if_pos h2, show (s * 256 + a) / 256 % 256 = x0 by omega, show (s * 256 + a) % 256 = a by omega]
      · split at h <;> simp at h
  | [a, b], _ =>
    have ha := hb a (by simp)
    have hb' := hb b (by simp)
    simp only [foldI, List.foldl]
    refine ⟨by omega, by omega, fun h => ?_⟩
    unfold intB at h ⊢
    split at h
    · simp at h
    · split at h
      · simp at h
      · split at h
        · next h1 h2 h3 => rw [if_neg h1, if_neg h2, if_pos h3, show ((s * 256 + a) * 256 + b) / 65536 % 256 = x0 by omega, show ((s * 256 + a) * 256 + b) / 256 % 256 = a by omega, show ((s * 256 + a) * 256 + b) % 256 = b by omega]
        · simp at h
  | [a, b, c], _ =>
    have ha := hb a (by simp)
    have hb' := hb b (by simp)
    have hc := hb c (by simp)
    simp only [foldI, List.foldl]
    refine ⟨by omega, by omega, fun h => ?_⟩
    unfold intB at h ⊢
    split at h
    · simp at h
    · split at h
      · simp at h
      · split at h
        · simp at h
        · next h1 h2 h3 => rw [if_neg h1, if_neg h2, if_neg h3, show (((s * 256 + a) * 256 + b) * 256 + c) / 16777216 % 256 = x0 by omega, show (((s * 256 + a) * 256 + b) * 256 + c) / 65536 % 256 = a by omega, show (((s * 256 + a) * 256 + b) * 256 + c) / 256 % 256 = b by omega, show (((s * 256 + a) * 256 + b) * 256 + c) % 256 = c by omega]
theorem clip_id {n : Int} (h : -2147483648 ≤ n ∧ n ≤ 2147483647) : clip n = n := by unfold clip; split <;> (try split) <;> omega
theorem i8 {x : Int} (hx : 0 ≤ x ∧ x ≤ 255) : w64 (IntKind.i8.wrap x) = sgn x := by
  have : IntKind.i8.wrap x = sgn x := by
    show (let m := x % 256; if (true && decide (m ≥ 128)) = true then m - 256 else m) = _
    unfold sgn
    simp only [Bool.true_and, decide_eq_true_eq]
    split <;> split <;> omega
  rw [this]
  unfold sgn
  split <;> exact w64_id (by omega) (by omega)
theorem getInt {b : List Int} (hb : Byt b) (hn : b.length ≤ M) : ∃ r, impl_GetInt b = some r ∧ spec_GetInt b = some r ∧ (r = (0, false) ∨ ∃ n, r = (n, true) ∧ b = intB n ∧ -2147483648 ≤ n ∧ n ≤ 2147483647) := by
  have hn' : b.length ≤ 1048576 := hn
  unfold impl_GetInt spec_GetInt
  rw [inT, inS, Option.bind_some, Option.bind_some]
  cases h14 : pIn (b.length : Int) 1 4 with
  | false => exact ⟨_, rfl, rfl, .inl rfl⟩
  | true =>
    obtain ⟨k1, k4⟩ := pIn_true h14
    match b, k1, k4, hb, hn' with
    | x0 :: l, k1, k4, hb, hn' =>
      have h3 : l.length ≤ 3 := by rw [List.length_cons] at k4; omega
      have h0 := hb x0 (by simp)
      have hl : Byt l := fun x hx => hb x (List.mem_cons_of_mem _ hx)
      obtain ⟨d1, d2, d3⟩ := intB_back hb h3
      have hsg : -256 ≤ sgn x0 ∧ sgn x0 ≤ 256 := by unfold sgn; split <;> omega
      have w0 : w64 x0 = x0 := w64_id (by omega) (by omega)
      have hcut : cut (x0 :: l) 1 ((x0 :: l).length : Int) = some l := by
        rw [show (1 : Int) = ((1 : Nat) : Int) from rfl, cut_ok (by simp) (Nat.le_refl _), List.take_length]; rfl
      have hfin : ∀ d : Int × Bool, True := fun _ => trivial
      have li : loop (fun z : Int × Int => impl_GetInt_l0 l z.1 z.2) (sgn x0, 0) = some (foldI (sgn x0) l) := int_loop hsg hl h3 (off := 0) _ (by omega) (fun k hk m => by
        show impl_GetInt_l0 l m ((0 + k : Nat) : Int) = _
        rw [Nat.zero_add]
        unfold impl_GetInt_l0
        rw [dlt (by omega), cond_true, at_nat hk, Option.bind_some, w64_nat (by omega), Nat.zero_add]) (fun m => by
        show impl_GetInt_l0 l m ((0 + l.length : Nat) : Int) = _
        rw [Nat.zero_add]
        unfold impl_GetInt_l0
        rw [dnlt (by omega), cond_false])
      have hat : ∀ k (hk : k < l.length), at? (x0 :: l) ((1 + k : Nat) : Int) = some l[k] := fun k hk => by
        rw [at_nat (by simp; omega)]
        congr 1
        rw [List.getElem_cons, dif_neg (by omega)]
        congr 1; omega
      have ls : loop (fun z : Int × Int => spec_GetInt_l0 (x0 :: l) z.1 z.2) (sgn x0, 1) = some (foldI (sgn x0) l) := int_loop hsg hl h3 (off := 1) _ (by omega) (fun k hk m => by
        show spec_GetInt_l0 (x0 :: l) m ((1 + k : Nat) : Int) = _
        unfold spec_GetInt_l0
        rw [dlt (show ((1 + k : Nat) : Int) < ((x0 :: l).length : Int) by rw [List.length_cons]; omega), cond_true, hat k hk, Option.bind_some, w64_nat (by omega)]; rfl) (fun m => by
        show spec_GetInt_l0 (x0 :: l) m ((1 + l.length : Nat) : Int) = _
        unfold spec_GetInt_l0
        rw [dnlt (show ¬ ((1 + l.length : Nat) : Int) < ((x0 :: l).length : Int) by rw [List.length_cons]; omega), cond_false])
      have ls1 : loop (fun z : Int × Int => spec_GetInt_l0_1 (x0 :: l) z.1 z.2) (sgn x0, 1) = some (foldI (sgn x0) l) := int_loop hsg hl h3 (off := 1) _ (by omega) (fun k hk m => by
        show spec_GetInt_l0_1 (x0 :: l) m ((1 + k : Nat) : Int) = _
        unfold spec_GetInt_l0_1
        rw [dlt (show ((1 + k : Nat) : Int) < ((x0 :: l).length : Int) by rw [List.length_cons]; omega), cond_true, hat k hk, Option.bind_some, w64_nat (by omega)]; rfl) (fun m => by
        show spec_GetInt_l0_1 (x0 :: l) m ((1 + l.length : Nat) : Int) = _
        unfold spec_GetInt_l0_1
        rw [dnlt (show ¬ ((1 + l.length : Nat) : Int) < ((x0 :: l).length : Int) by rw [List.length_cons]; omega), cond_false])
      have fin1 : ∀ (g : Option (List Int)), g = some (intB (foldI (sgn x0) l)) → ∃ r, (g.bind fun t30 => cond ((t30.length : Int) != ((x0 :: l).length : Int)) (some ((0 : Int), false)) (some (foldI (sgn x0) l, true))) = some r ∧ (r = (0, false) ∨ ∃ n, r = (n, true) ∧ x0 :: l = intB n ∧ -2147483648 ≤ n ∧ n ≤ 2147483647) := fun g hg => by
        rw [hg, Option.bind_some]
        cases he : (((intB (foldI (sgn x0) l)).length : Int) != ((x0 :: l).length : Int)) with
        | true => exact ⟨_, rfl, .inl rfl⟩
        | false =>
          have he' : ((intB (foldI (sgn x0) l)).length : Int) = ((x0 :: l).length : Int) := by simpa using he
          exact ⟨_, rfl, .inr ⟨_, rfl, d3 (by omega), d1, d2⟩⟩
      have p1 := putInt (n := foldI (sgn x0) l) ⟨by omega, by omega⟩
      have p2 := putIntS (n := foldI (sgn x0) l)
      rw [clip_id ⟨d1, d2⟩] at p1 p2
      obtain ⟨r, f1, f2⟩ := fin1 _ p1
      have f3 : ((spec_PutInt (foldI (sgn x0) l)).bind fun t30 => cond ((t30.length : Int) != ((x0 :: l).length : Int)) (some ((0 : Int), false)) (some (foldI (sgn x0) l, true))) = some r := by rw [p2, ← p1]; exact f1
      refine ⟨r, ?_, ?_, f2⟩
      · rw [Bool.not_true, cond_false, show at? (x0 :: l) 0 = some x0 from rfl, Option.bind_some]
        simp only
        rw [hcut, Option.bind_some, i8 h0, li, Option.bind_some]
        exact f1
      · rw [Bool.not_true, cond_false, show at? (x0 :: l) 0 = some x0 from rfl, Option.bind_some, w0]
        by_cases h7 : x0 > 127
        · have hsx : w64 (x0 - 256) = sgn x0 := by unfold sgn; rw [if_pos h7]; exact w64_id (by omega) (by omega)
          rw [decide_eq_true h7, cond_true, hsx, ls, Option.bind_some]
          exact f3
        · have hsx : sgn x0 = x0 := by unfold sgn; rw [if_neg h7]
          rw [hsx] at ls1 f3
          rw [decide_eq_false h7, cond_false, ls1, Option.bind_some]
          exact f3

set_option linter.unusedVariables false
set_option linter.unusedSimpArgs false
/-! ### names as bytes -/
theorem pow64 : ((2 ^ 64 : Nat) : Int) = 18446744073709551616 := by decide
theorem band127 {x : Int} (hx : 0 ≤ x ∧ x < 9223372036854775808) : band .i64 x 127 = x % 128 := by
  show IntKind.i64.wrap (((BitVec.ofInt 64 x &&& BitVec.ofInt 64 127).toNat : Nat) : Int) = _
  rw [BitVec.toNat_and, BitVec.toNat_ofInt, BitVec.toNat_ofInt, pow64]
  have h2 : ((127 : Int) % 18446744073709551616).toNat = 2 ^ 7 - 1 := by decide
  have h1 : (x % 18446744073709551616).toNat = x.toNat := by omega
  rw [h1, h2, Nat.and_two_pow_sub_one_eq_mod]
  show (let z := ((x.toNat % 2 ^ 7 : Nat) : Int) % 18446744073709551616; if (true && decide (z ≥ 9223372036854775808)) = true then z - 18446744073709551616 else z) = _
  simp only [Bool.true_and, decide_eq_true_eq]
  split <;> omega
theorem band127' {x : Int} (hx : 0 ≤ x ∧ x ≤ 255) : band .u8 x 127 = x % 128 := by
  show IntKind.u8.wrap (((BitVec.ofInt 8 x &&& BitVec.ofInt 8 127).toNat : Nat) : Int) = _
  rw [BitVec.toNat_and, BitVec.toNat_ofInt, BitVec.toNat_ofInt, show ((2 ^ 8 : Nat) : Int) = 256 by decide]
  have h2 : ((127 : Int) % 256).toNat = 2 ^ 7 - 1 := by decide
  have h1 : (x % 256).toNat = x.toNat := by omega
  rw [h1, h2, Nat.and_two_pow_sub_one_eq_mod]
  show (((x.toNat % 2 ^ 7 : Nat) : Int) % 256) = _
  omega
theorem bor128 {x : Int} (hx : 0 ≤ x ∧ x < 128) : bor .i64 x 128 = x + 128 := by
  show IntKind.i64.wrap (((BitVec.ofInt 64 x ||| BitVec.ofInt 64 128).toNat : Nat) : Int) = _
  rw [BitVec.toNat_or, BitVec.toNat_ofInt, BitVec.toNat_ofInt, pow64]
  have h2 : ((128 : Int) % 18446744073709551616).toNat = 2 ^ 7 * 1 := by decide
  have h1 : (x % 18446744073709551616).toNat = x.toNat := by omega
  rw [h1, h2, Nat.or_comm, ← Nat.two_pow_add_eq_or_of_lt (by show x.toNat < 2 ^ 7; omega)]
  show (let z := ((2 ^ 7 * 1 + x.toNat : Nat) : Int) % 18446744073709551616; if (true && decide (z ≥ 9223372036854775808)) = true then z - 18446744073709551616 else z) = _
  simp only [Bool.true_and, decide_eq_true_eq]
  split <;> omega
theorem bor7 {m x : Int} (hm : 0 ≤ m ∧ m ≤ 1099511627776) (hx : 0 ≤ x ∧ x < 128) : bor .i64 (w64 (m * 2 ^ 7)) (w64 x) = m * 128 + x := by
  rw [show m * 2 ^ 7 = m * 128 from rfl, w64_id (show -9223372036854775808 ≤ m * 128 by omega) (by omega), w64_id (show -9223372036854775808 ≤ x by omega) (by omega)]
  show IntKind.i64.wrap (((BitVec.ofInt 64 (m * 128) ||| BitVec.ofInt 64 x).toNat : Nat) : Int) = _
  rw [BitVec.toNat_or, BitVec.toNat_ofInt, BitVec.toNat_ofInt, pow64]
  have h1 : ((m * 128) % 18446744073709551616).toNat = 2 ^ 7 * m.toNat := by omega
  have h2 : (x % 18446744073709551616).toNat = x.toNat := by omega
  rw [h1, h2, ← Nat.two_pow_add_eq_or_of_lt (by show x.toNat < 2 ^ 7; omega)]
  show (let z := ((2 ^ 7 * m.toNat + x.toNat : Nat) : Int) % 18446744073709551616; if (true && decide (z ≥ 9223372036854775808)) = true then z - 18446744073709551616 else z) = _
  simp only [Bool.true_and, decide_eq_true_eq]
  split <;> omega
def grp (n : Int) : List Int := if n ≤ 127 then [n] else if n ≤ 16383 then [n / 128 + 128, n % 128] else if n ≤ 2097151 then [n / 16384 + 128, n / 128 % 128 + 128, n % 128] else [n / 2097152 + 128, n / 16384 % 128 + 128, n / 128 % 128 + 128, n % 128]
def oidB (o : List Int) : List Int := o.flatMap grp
theorem grpS {n : Int} (hn : 0 ≤ n ∧ n < 268435456) : spec_l2Group n = some (grp n) := by
  unfold spec_l2Group
  have st : ∀ (x : Int) (out : List Int), 0 ≤ x ∧ x < 268435456 → out.length ≤ 10 → spec_l2Group_l0 x out = cond (decide (x > 127)) (some (.inl (x / 128, (x / 128 % 128 + 128) :: out))) (some (.inr out)) := fun x out hx ho => by
    unfold spec_l2Group_l0
    rw [fd x (by decide), show (2 : Int) ^ 7 = 128 from rfl, band127 (by omega), bor128 (by omega), w8, app_small (by simp; omega), Option.bind_some, show (x / 128 % 128 + 128) % 256 = x / 128 % 128 + 128 by omega]
    rfl
  have goes : ∀ (x : Int) (out : List Int), 0 ≤ x ∧ x < 268435456 → out.length ≤ 9 → x ≤ 127 → loop (fun z : Int × List Int => spec_l2Group_l0 z.1 z.2) (x, out) = some out := fun x out hx ho h => loop_end (by show spec_l2Group_l0 x out = _; rw [st x out hx (by omega), decide_eq_false (by omega)]; rfl)
  have more : ∀ (x : Int) (out r : List Int), 0 ≤ x ∧ x < 268435456 → out.length ≤ 9 → 127 < x → loop (fun z : Int × List Int => spec_l2Group_l0 z.1 z.2) (x / 128, (x / 128 % 128 + 128) :: out) = some r → loop (fun z : Int × List Int => spec_l2Group_l0 z.1 z.2) (x, out) = some r := fun x out r hx ho h k => loop_in (by show spec_l2Group_l0 x out = _; rw [st x out hx (by omega), decide_eq_true (by omega)]; rfl) k
  rw [band127 (by omega), w8, show n % 128 % 256 = n % 128 by omega]
  unfold grp
  by_cases h1 : n ≤ 127
  · rw [if_pos h1, goes n _ hn (by simp) h1, show n % 128 = n by omega]; rfl
  rw [if_neg h1]
  by_cases h2 : n ≤ 16383
  · rw [if_pos h2, more n _ _ hn (by simp) (by omega) (goes (n / 128) _ (by omega) (by simp) (by omega)), show n / 128 % 128 = n / 128 by omega]; rfl
  rw [if_neg h2]
  by_cases h3 : n ≤ 2097151
  · rw [if_pos h3, more n _ _ hn (by simp) (by omega) (more (n / 128) _ _ (by omega) (by simp) (by omega) (goes (n / 128 / 128) _ (by omega) (by simp) (by omega))), show n / 128 / 128 = n / 16384 by omega, show n / 16384 % 128 = n / 16384 by omega]; rfl
  rw [if_neg h3, more n _ _ hn (by simp) (by omega) (more (n / 128) _ _ (by omega) (by simp) (by omega) (more (n / 128 / 128) _ _ (by omega) (by simp) (by omega) (goes (n / 128 / 128 / 128) _ (by omega) (by simp) (by omega)))), show n / 128 / 128 = n / 16384 by omega, show n / 16384 / 128 = n / 2097152 by omega, show n / 2097152 % 128 = n / 2097152 by omega]; rfl
theorem grp_len (n : Int) : (grp n).length ≤ 4 := by unfold grp; split <;> (try split) <;> (try split) <;> simp
theorem grp_pos (n : Int) : 1 ≤ (grp n).length := by unfold grp; split <;> (try split) <;> (try split) <;> simp
theorem grp_len3 {n : Int} (h : n ≤ 100000) : (grp n).length ≤ 3 := by unfold grp; split <;> (try split) <;> (try split) <;> simp <;> omega
theorem oidB_len {o : List Int} (h : ∀ x ∈ o, x ≤ 100000) : (oidB o).length ≤ 3 * o.length := by
  induction o with
  | nil => simp [oidB]
  | cons x t ih =>
    have h1 := ih fun y hy => h y (List.mem_cons_of_mem _ hy)
    have h2 := grp_len3 (h x (by simp))
    unfold oidB at h1 ⊢
    rw [List.flatMap_cons, List.length_append, List.length_cons]; omega
/-- One number of a name is written. -/
theorem grpI {n : Int} (hn : 0 ≤ n ∧ n ≤ 100000) {out : List Int} (ho : out.length ≤ 100) : ∃ d, loop (fun z => impl_PutOid_l2 n z) 0 = some d ∧ ∃ e, loop (fun z : Int × List Int => impl_PutOid_l4 n z.1 z.2) (d, out) = some e ∧ e.length ≤ 104 ∧ e ++ [IntKind.u8.wrap (band .i64 n 127)] = out ++ grp n := by
  have s0 : impl_PutOid_l2 n 0 = cond (decide (n > 127)) (some (.inl 1)) (some (.inr 0)) := by
    unfold impl_PutOid_l2
    rw [show shr .i64 n (w64 (7 * 0)) = some (n.fdiv (2 ^ 0)) from rfl, Option.bind_some, fd n (by decide), show n / 2 ^ 0 = n by simp]; rfl
  have s1 : impl_PutOid_l2 n 1 = cond (decide (n / 128 > 127)) (some (.inl 2)) (some (.inr 1)) := by
    unfold impl_PutOid_l2
    rw [show shr .i64 n (w64 (7 * 1)) = some (n.fdiv (2 ^ 7)) from rfl, Option.bind_some, fd n (by decide), show (2 : Int) ^ 7 = 128 from rfl]; rfl
  have s2 : impl_PutOid_l2 n 2 = some (.inr 2) := by
    unfold impl_PutOid_l2
    rw [show shr .i64 n (w64 (7 * 2)) = some (n.fdiv (2 ^ 14)) from rfl, Option.bind_some, fd n (by decide), show (2 : Int) ^ 14 = 16384 from rfl, decide_eq_false (by omega)]; rfl
  have t0 : ∀ o : List Int, impl_PutOid_l4 n 0 o = some (.inr o) := fun o => rfl
  have t1 : ∀ o : List Int, o.length ≤ 110 → impl_PutOid_l4 n 1 o = some (.inl (0, o ++ [n / 128 % 128 + 128])) := fun o ho => by
    unfold impl_PutOid_l4
    rw [show shr .i64 n (w64 (7 * 1)) = some (n.fdiv (2 ^ 7)) from rfl, Option.bind_some, fd n (by decide), show (2 : Int) ^ 7 = 128 from rfl, band127 (by omega), w64_id (by omega) (by omega), w8, app_small (by simp; omega), Option.bind_some, show (n / 128 % 128 + 128) % 256 = n / 128 % 128 + 128 by omega]; rfl
  have t2 : ∀ o : List Int, o.length ≤ 110 → impl_PutOid_l4 n 2 o = some (.inl (1, o ++ [n / 16384 % 128 + 128])) := fun o ho => by
    unfold impl_PutOid_l4
    rw [show shr .i64 n (w64 (7 * 2)) = some (n.fdiv (2 ^ 14)) from rfl, Option.bind_some, fd n (by decide), show (2 : Int) ^ 14 = 16384 from rfl, band127 (by omega), w64_id (by omega) (by omega), w8, app_small (by simp; omega), Option.bind_some, show (n / 16384 % 128 + 128) % 256 = n / 16384 % 128 + 128 by omega]; rfl
  rw [band127 (by omega), w8, show n % 128 % 256 = n % 128 by omega]
  unfold grp
  by_cases h1 : n ≤ 127
  · rw [decide_eq_false (by omega)] at s0
    refine ⟨0, loop_end s0, out, loop_end (t0 out), by omega, ?_⟩
    rw [if_pos h1, show n % 128 = n by omega]
  rw [decide_eq_true (by omega)] at s0
  by_cases h2 : n ≤ 16383
  · rw [decide_eq_false (by omega)] at s1
    refine ⟨1, loop_in s0 (loop_end s1), _, loop_in (t1 out (by omega)) (loop_end (t0 _)), by simp; omega, ?_⟩
    rw [if_neg h1, if_pos h2, show n / 128 % 128 = n / 128 by omega]; simp
  rw [decide_eq_true (by omega)] at s1
  refine ⟨2, loop_in s0 (loop_in s1 (loop_end s2)), _, loop_in (t2 out (by omega)) (loop_in (t1 _ (by simp; omega)) (loop_end (t0 _))), by simp; omega, ?_⟩
  rw [if_neg h1, if_neg h2, if_pos (by omega), show n / 16384 % 128 = n / 16384 by omega]; simp
theorem putOid {o : List Int} (hn : o.length ≤ M) : ∃ v, impl_OidOk o = some v ∧ (v = true → 1 ≤ o.length ∧ o.length ≤ 10 ∧ ∀ x ∈ o, 0 ≤ x ∧ x ≤ 100000) ∧ impl_PutOid o = some (cond v (oidB o) []) := by
  have hn' : o.length ≤ 1048576 := hn
  obtain ⟨v, hv, hv2⟩ : ∃ v, impl_OidOk o = some v ∧ (v = true → 1 ≤ o.length ∧ o.length ≤ 10 ∧ ∀ x ∈ o, 0 ≤ x ∧ x ≤ 100000) := by
    unfold impl_OidOk
    obtain ⟨b, h1, h2⟩ := loop_inv (β := Unit ⊕ Bool) (step := fun z => impl_OidOk_l0 o z) (fun k i => i = (k : Int) ∧ ∀ x ∈ o.take k, 0 ≤ x ∧ x ≤ 100000) o.length (fun b => (b = .inl () ∧ ∀ x ∈ o, 0 ≤ x ∧ x ≤ 100000) ∨ b = .inr false)
      (fun k i hk ⟨e, hx⟩ => by
        subst e
        have hs : impl_OidOk_l0 o (k : Int) = cond (!(pIn o[k] 0 100000)) (some (.inr (.inr false))) (some (.inl ((k + 1 : Nat) : Int))) := by
          unfold impl_OidOk_l0
          rw [dlt (by omega), cond_true, at_nat hk, Option.bind_some, inT, Option.bind_some, w64_nat (by omega)]
        cases hp : pIn o[k] 0 100000 with
        | false => exact .inr ⟨_, by rw [hs, hp]; rfl, .inr rfl⟩
        | true =>
          refine .inl ⟨_, by rw [hs, hp]; rfl, rfl, fun x hx' => ?_⟩
          rw [List.take_add_one, List.getElem?_eq_getElem hk, List.mem_append] at hx'
          rcases hx' with hx' | hx'
          · exact hx x hx'
          · simp at hx'; subst hx'; exact pIn_true hp)
      (fun i ⟨e, hx⟩ => by
        subst e
        rw [List.take_length] at hx
        refine ⟨.inl (), ?_, .inl ⟨rfl, hx⟩⟩
        unfold impl_OidOk_l0
        rw [dnlt (by omega), cond_false]) (x := 0) ⟨rfl, by simp⟩
    rw [h1, Option.bind_some]
    rcases h2 with ⟨rfl, hx⟩ | rfl
    · simp only [Sum.elim_inl, inT, Option.bind_some]
      refine ⟨_, rfl, fun h => ?_⟩
      have := pIn_true h
      exact ⟨by omega, by omega, hx⟩
    · exact ⟨false, rfl, fun h => by cases h⟩
  refine ⟨v, hv, hv2, ?_⟩
  unfold impl_PutOid
  rw [hv, Option.bind_some]
  cases v with
  | false => rfl
  | true =>
    obtain ⟨h1, h10, hx⟩ := hv2 rfl
    obtain ⟨b, e1, rfl⟩ := loop_inv (step := fun z : Int × List Int => impl_PutOid_l0 o z.1 z.2) (fun k z => z = ((k : Int), oidB (o.take k))) o.length (fun b => b = oidB o)
      (fun k z hk e => by
        subst e
        left
        have hl : (oidB (o.take k)).length ≤ 30 := by
          have := oidB_len (o := o.take k) fun x hx' => (hx x (List.mem_of_mem_take hx')).2
          rw [List.length_take] at this; omega
        obtain ⟨d, d1, e, e1, e2, e3⟩ := grpI (hx _ (List.getElem_mem hk)) (out := oidB (o.take k)) (by omega)
        have ht : oidB (o.take (k + 1)) = oidB (o.take k) ++ grp o[k] := by
          unfold oidB
          rw [List.take_add_one, List.getElem?_eq_getElem hk, List.flatMap_append]; simp
        refine ⟨_, ?_, rfl⟩
        show impl_PutOid_l0 o (k : Int) (oidB (o.take k)) = _
        unfold impl_PutOid_l0
        rw [dlt (by omega), cond_true, at_nat hk, Option.bind_some, d1, Option.bind_some, e1, Option.bind_some, app_small (by simp; omega), Option.bind_some, w64_nat (by omega), ht, ← e3])
      (fun z e => by
        subst e
        refine ⟨oidB o, ?_, rfl⟩
        show impl_PutOid_l0 o (o.length : Int) (oidB (o.take o.length)) = _
        unfold impl_PutOid_l0
        rw [dnlt (by omega), cond_false, List.take_length]) (x := (0, [])) rfl
    rw [e1]; rfl

set_option linter.unusedVariables false
set_option linter.unusedSimpArgs false
/-! ### names read -/
theorem grp_byt {n : Int} (h : 0 ≤ n ∧ n < 268435456) : Byt (grp n) := by
  unfold grp
  intro x hx
  split at hx
  · simp at hx; omega
  · split at hx
    · simp at hx; omega
    · split at hx
      · simp at hx; omega
      · simp at hx; omega
/-- A group is read by impl. -/
theorem readI {pre rest out : List Int} {n : Int} (hn : 0 ≤ n ∧ n ≤ 100000) (hp : pre.length ≤ 30) (ho : out.length ≤ 100) {r : List Int ⊕ (Bool × List Int)}
    (k : loop (fun z : Int × Int × List Int => impl_GetOid_l0 (pre ++ (grp n ++ rest)) z.1 z.2.1 z.2.2) (0, ((pre.length + (grp n).length : Nat) : Int), out ++ [n]) = some r) :
    loop (fun z : Int × Int × List Int => impl_GetOid_l0 (pre ++ (grp n ++ rest)) z.1 z.2.1 z.2.2) (0, (pre.length : Int), out) = some r := by
  have hg := grp_byt (n := n) (by omega)
  have st : ∀ (m : Int) (j : Nat) (o : List Int) (hj : j < (grp n).length), 0 ≤ m ∧ m ≤ 1048576 → o.length ≤ 100 → impl_GetOid_l0 (pre ++ (grp n ++ rest)) m ((pre.length + j : Nat) : Int) o = cond (decide ((grp n)[j] < 128)) (some (.inl (0, ((pre.length + (j + 1) : Nat) : Int), o ++ [m * 128 + (grp n)[j] % 128]))) (some (.inl (m * 128 + (grp n)[j] % 128, ((pre.length + (j + 1) : Nat) : Int), o))) := fun m j o hj hm ho => by
    have h4 := grp_len n
    have hx := hg _ (List.getElem_mem hj)
    have hat : at? (pre ++ (grp n ++ rest)) ((pre.length + j : Nat) : Int) = some (grp n)[j] := by
      rw [at_pre, at_nat (by rw [List.length_append]; omega), List.getElem_append_left hj]
    unfold impl_GetOid_l0
    rw [dlt (show ((pre.length + j : Nat) : Int) < ((pre ++ (grp n ++ rest)).length : Int) by rw [List.length_append, List.length_append]; omega), cond_true, hat, Option.bind_some, decide_eq_false (show ¬ ((pre.length + j : Nat) : Int) ≥ 40 by omega), cond_false, band127' hx, w64_nat (by omega)]
    have hmin : min2 m 1048576 = m := by unfold min2; split <;> omega
    rw [hmin, bor7 (by omega) (by omega)]
    simp only
    rw [app_small (by simp; omega), Option.bind_some]; rfl
  have h4 := grp_len n
  have hz : (0 : Int) * 128 = 0 := rfl
  unfold grp at k st ⊢
  by_cases h1 : n ≤ 127
  · rw [if_pos h1] at k st ⊢
    have s0 := st 0 0 out (by simp) (by omega) ho
    simp only [List.getElem_cons_zero, Nat.add_zero] at s0
    rw [decide_eq_true (by omega), cond_true, show (0 : Int) * 128 + n % 128 = n by omega] at s0
    exact loop_in s0 k
  rw [if_neg h1] at k st ⊢
  by_cases h2 : n ≤ 16383
  · rw [if_pos h2] at k st ⊢
    have s0 := st 0 0 out (by simp) (by omega) ho
    have s1 := st (n / 128) 1 out (by simp) (by omega) ho
    simp only [List.getElem_cons_zero, List.getElem_cons_succ, Nat.add_zero, Nat.zero_add, Nat.reduceAdd] at s0 s1
    rw [decide_eq_false (by omega), cond_false, show (0 : Int) * 128 + (n / 128 + 128) % 128 = n / 128 by omega] at s0
    rw [decide_eq_true (by omega), cond_true, show n / 128 * 128 + n % 128 % 128 = n by omega] at s1
    exact loop_in s0 (loop_in s1 k)
  rw [if_neg h2] at k st ⊢
  rw [if_pos (show n ≤ 2097151 by omega)] at k st ⊢
  have s0 := st 0 0 out (by simp) (by omega) ho
  have s1 := st (n / 16384) 1 out (by simp) (by omega) ho
  have s2 := st (n / 128) 2 out (by simp) (by omega) ho
  simp only [List.getElem_cons_zero, List.getElem_cons_succ, Nat.add_zero, Nat.zero_add, Nat.reduceAdd] at s0 s1 s2
  rw [decide_eq_false (by omega), cond_false, show (0 : Int) * 128 + (n / 16384 + 128) % 128 = n / 16384 by omega] at s0
  rw [decide_eq_false (by omega), cond_false, show n / 16384 * 128 + (n / 128 % 128 + 128) % 128 = n / 128 by omega] at s1
  rw [decide_eq_true (by omega), cond_true, show n / 128 * 128 + n % 128 % 128 = n by omega] at s2
  exact loop_in s0 (loop_in s1 (loop_in s2 k))
/-- A name that was written is read by impl. -/
theorem readAllI {b : List Int} : ∀ (o pre out : List Int), b = pre ++ oidB o → (∀ x ∈ o, 0 ≤ x ∧ x ≤ 100000) → b.length ≤ 30 → out.length + o.length ≤ 20 → loop (fun z : Int × Int × List Int => impl_GetOid_l0 b z.1 z.2.1 z.2.2) (0, (pre.length : Int), out) = some (.inl (out ++ o))
  | [], pre, out, e, _, hb, _ => by
    have : b.length = pre.length := by rw [e]; simp [oidB]
    refine loop_end ?_
    show impl_GetOid_l0 b 0 (pre.length : Int) out = _
    unfold impl_GetOid_l0
    rw [dnlt (by omega), cond_false, List.append_nil]
  | n :: o, pre, out, e, hx, hb, hl => by
    have e1 : b = pre ++ (grp n ++ oidB o) := by rw [e]; rfl
    have e2 : b = (pre ++ grp n) ++ oidB o := by rw [e1, List.append_assoc]
    have ih := readAllI o (pre ++ grp n) (out ++ [n]) e2 (fun x h => hx x (List.mem_cons_of_mem _ h)) hb (by simp at hl ⊢; omega)
    rw [List.length_append, List.append_assoc] at ih
    have hpl : pre.length ≤ 30 := by rw [e1, List.length_append] at hb; omega
    rw [List.length_cons] at hl
    rw [e1] at ih ⊢
    exact readI (hx n (by simp)) hpl (by omega) ih
/-- One group is read by spec, and what is read is a group. -/
theorem readS {b pre s : List Int} (e : b = pre ++ s) (hb : Byt b) (hn : b.length ≤ M) : ∃ d : Int × Int × Int × Bool, loop (fun z : Int × Int × Int × Bool => spec_GetOid_l2 b z.1 z.2.1 z.2.2.1 z.2.2.2) ((pre.length : Int), 0, 0, true) = some d ∧
    (d.2.2.2 = true ∨ ∃ l rest : List Int, s = l ++ rest ∧ 1 ≤ l.length ∧ d = (((pre.length + l.length : Nat) : Int), d.2.1, (l.length : Int), false) ∧ 0 ≤ d.2.1 ∧ d.2.1 < 268435456 ∧ ((grp d.2.1).length = l.length → l = grp d.2.1)) ∧ 0 ≤ d.2.1 ∧ d.2.1 < 268435456 ∧ 0 ≤ d.1 ∧ d.1 ≤ (b.length : Int) := by
  have hn' : b.length ≤ 1048576 := hn
  have hlen : b.length = pre.length + s.length := by rw [e, List.length_append]
  have st : ∀ (m : Int) (j : Nat) (hj : j < s.length), j < 4 → 0 ≤ m ∧ m ≤ 2097152 → spec_GetOid_l2 b ((pre.length + j : Nat) : Int) m (j : Int) true = some (.inl (((pre.length + (j + 1) : Nat) : Int), m * 128 + s[j] % 128, ((j + 1 : Nat) : Int), decide (s[j] > 127))) := fun m j hj h4 hm => by
    have hx : 0 ≤ s[j] ∧ s[j] ≤ 255 := hb _ (by rw [e]; exact List.mem_append_right _ (List.getElem_mem hj))
    have hat : at? b ((pre.length + j : Nat) : Int) = some s[j] := by rw [e, at_pre, at_nat hj]
    unfold spec_GetOid_l2
    rw [dlt (show ((pre.length + j : Nat) : Int) < (b.length : Int) by omega), cond_true, Option.bind_some, cond_true, dlt (show (j : Int) < 4 by omega), Option.bind_some, cond_true, hat, Option.bind_some, Option.bind_some, band127' hx, bor7 (by omega) (by omega), w64_nat (by omega), w64_nat (by omega)]
    rfl
  have stop : ∀ (m : Int) (j : Nat), spec_GetOid_l2 b ((pre.length + j : Nat) : Int) m (j : Int) false = some (.inr (((pre.length + j : Nat) : Int), m, (j : Int), false)) := fun m j => by
    unfold spec_GetOid_l2
    rfl
  have endd : ∀ (m : Int) (j : Nat), (s.length ≤ j ∨ 4 ≤ j) → spec_GetOid_l2 b ((pre.length + j : Nat) : Int) m (j : Int) true = some (.inr (((pre.length + j : Nat) : Int), m, (j : Int), true)) := fun m j h => by
    unfold spec_GetOid_l2
    rw [cond_true, Option.bind_some]
    by_cases h1 : ((pre.length + j : Nat) : Int) < (b.length : Int)
    · rw [dlt h1, cond_true, dnlt (show ¬ (j : Int) < 4 by omega)]; rfl
    · rw [dnlt h1, cond_false]; rfl
  have hsx : ∀ j (hj : j < s.length), 0 ≤ s[j] ∧ s[j] ≤ 255 := fun j hj => hb _ (by rw [e]; exact List.mem_append_right _ (List.getElem_mem hj))
  by_cases l0 : s.length ≤ 0
  · exact ⟨_, loop_end (endd 0 0 (.inl l0)), .inl rfl, by show (0 : Int) ≤ 0 ∧ (0 : Int) < _ ∧ _; omega⟩
  have a0 := st 0 0 (by omega) (by omega) (by omega)
  have x0 := hsx 0 (by omega)
  generalize g0 : s[0] = y0 at a0 x0
  by_cases m0 : y0 > 127
  · rw [decide_eq_true m0] at a0
    by_cases l1 : s.length ≤ 1
    · exact ⟨_, loop_in a0 (loop_end (endd _ 1 (.inl l1))), .inl rfl, by show 0 ≤ (0 : Int) * 128 + y0 % 128 ∧ (0 : Int) * 128 + y0 % 128 < _ ∧ (0 : Int) ≤ ((pre.length + 1 : Nat) : Int) ∧ ((pre.length + 1 : Nat) : Int) ≤ _; omega⟩
    have a1 := st (0 * 128 + y0 % 128) 1 (by omega) (by omega) (by omega)
    have x1 := hsx 1 (by omega)
    generalize g1 : s[1] = y1 at a1 x1
    by_cases m1 : y1 > 127
    · rw [decide_eq_true m1] at a1
      by_cases l2 : s.length ≤ 2
      · exact ⟨_, loop_in a0 (loop_in a1 (loop_end (endd _ 2 (.inl l2)))), .inl rfl, by show 0 ≤ ((0 : Int) * 128 + y0 % 128) * 128 + y1 % 128 ∧ ((0 : Int) * 128 + y0 % 128) * 128 + y1 % 128 < _ ∧ (0 : Int) ≤ ((pre.length + 2 : Nat) : Int) ∧ ((pre.length + 2 : Nat) : Int) ≤ _; omega⟩
      have a2 := st ((0 * 128 + y0 % 128) * 128 + y1 % 128) 2 (by omega) (by omega) (by omega)
      have x2 := hsx 2 (by omega)
      generalize g2 : s[2] = y2 at a2 x2
      by_cases m2 : y2 > 127
      · rw [decide_eq_true m2] at a2
        by_cases l3 : s.length ≤ 3
        · exact ⟨_, loop_in a0 (loop_in a1 (loop_in a2 (loop_end (endd _ 3 (.inl l3))))), .inl rfl, by show 0 ≤ (((0 : Int) * 128 + y0 % 128) * 128 + y1 % 128) * 128 + y2 % 128 ∧ (((0 : Int) * 128 + y0 % 128) * 128 + y1 % 128) * 128 + y2 % 128 < _ ∧ (0 : Int) ≤ ((pre.length + 3 : Nat) : Int) ∧ ((pre.length + 3 : Nat) : Int) ≤ _; omega⟩
        have a3 := st (((0 * 128 + y0 % 128) * 128 + y1 % 128) * 128 + y2 % 128) 3 (by omega) (by omega) (by omega)
        have x3 := hsx 3 (by omega)
        generalize g3 : s[3] = y3 at a3 x3
        by_cases m3 : y3 > 127
        · rw [decide_eq_true m3] at a3
          exact ⟨_, loop_in a0 (loop_in a1 (loop_in a2 (loop_in a3 (loop_end (endd _ 4 (.inr (by omega))))))), .inl rfl, by show 0 ≤ ((((0 : Int) * 128 + y0 % 128) * 128 + y1 % 128) * 128 + y2 % 128) * 128 + y3 % 128 ∧ ((((0 : Int) * 128 + y0 % 128) * 128 + y1 % 128) * 128 + y2 % 128) * 128 + y3 % 128 < _ ∧ (0 : Int) ≤ ((pre.length + 4 : Nat) : Int) ∧ ((pre.length + 4 : Nat) : Int) ≤ _; omega⟩
        · rw [decide_eq_false m3] at a3
          have d0 : s.drop 0 = s[0] :: s.drop 1 := List.drop_eq_getElem_cons (by omega)
          have d1 : s.drop 1 = s[1] :: s.drop 2 := List.drop_eq_getElem_cons (by omega)
          have d2 : s.drop 2 = s[2] :: s.drop 3 := List.drop_eq_getElem_cons (by omega)
          have d3 : s.drop 3 = s[3] :: s.drop 4 := List.drop_eq_getElem_cons (by omega)
          have hs : s = y0 :: y1 :: y2 :: y3 :: s.drop 4 := by
            rw [List.drop_zero] at d0
            exact d0.trans (by rw [g0, d1, g1, d2, g2, d3, g3])
          refine ⟨_, loop_in a0 (loop_in a1 (loop_in a2 (loop_in a3 (loop_end (stop _ 4))))), .inr ⟨[y0, y1, y2, y3], s.drop 4, hs, by simp, rfl, ?_, ?_, ?_⟩, ?_⟩
          · show 0 ≤ ((((0 : Int) * 128 + y0 % 128) * 128 + y1 % 128) * 128 + y2 % 128) * 128 + y3 % 128; omega
          · show ((((0 : Int) * 128 + y0 % 128) * 128 + y1 % 128) * 128 + y2 % 128) * 128 + y3 % 128 < _; omega
          · show (grp (((((0 : Int) * 128 + y0 % 128) * 128 + y1 % 128) * 128 + y2 % 128) * 128 + y3 % 128)).length = _ → _ = grp (((((0 : Int) * 128 + y0 % 128) * 128 + y1 % 128) * 128 + y2 % 128) * 128 + y3 % 128)
            intro h
            generalize hv : ((((0 : Int) * 128 + y0 % 128) * 128 + y1 % 128) * 128 + y2 % 128) * 128 + y3 % 128 = v at h ⊢
            unfold grp at h ⊢
            split at h
            · simp at h
            · split at h
              · simp at h
              · split at h
                · simp at h
                · next q1 q2 q3 => rw [if_neg q1, if_neg q2, if_neg q3, show v / 2097152 + 128 = y0 by omega, show v / 16384 % 128 + 128 = y1 by omega, show v / 128 % 128 + 128 = y2 by omega, show v % 128 = y3 by omega]
          · show 0 ≤ ((((0 : Int) * 128 + y0 % 128) * 128 + y1 % 128) * 128 + y2 % 128) * 128 + y3 % 128 ∧ ((((0 : Int) * 128 + y0 % 128) * 128 + y1 % 128) * 128 + y2 % 128) * 128 + y3 % 128 < _ ∧ (0 : Int) ≤ ((pre.length + 4 : Nat) : Int) ∧ ((pre.length + 4 : Nat) : Int) ≤ _
            omega
      · rw [decide_eq_false m2] at a2
        have d0 : s.drop 0 = s[0] :: s.drop 1 := List.drop_eq_getElem_cons (by omega)
        have d1 : s.drop 1 = s[1] :: s.drop 2 := List.drop_eq_getElem_cons (by omega)
        have d2 : s.drop 2 = s[2] :: s.drop 3 := List.drop_eq_getElem_cons (by omega)
        have hs : s = y0 :: y1 :: y2 :: s.drop 3 := by
          rw [List.drop_zero] at d0
          exact d0.trans (by rw [g0, d1, g1, d2, g2])
        refine ⟨_, loop_in a0 (loop_in a1 (loop_in a2 (loop_end (stop _ 3)))), .inr ⟨[y0, y1, y2], s.drop 3, hs, by simp, rfl, ?_, ?_, ?_⟩, ?_⟩
        · show 0 ≤ (((0 : Int) * 128 + y0 % 128) * 128 + y1 % 128) * 128 + y2 % 128; omega
        · show (((0 : Int) * 128 + y0 % 128) * 128 + y1 % 128) * 128 + y2 % 128 < _; omega
        · show (grp ((((0 : Int) * 128 + y0 % 128) * 128 + y1 % 128) * 128 + y2 % 128)).length = _ → _ = grp ((((0 : Int) * 128 + y0 % 128) * 128 + y1 % 128) * 128 + y2 % 128)
          intro h
          generalize hv : (((0 : Int) * 128 + y0 % 128) * 128 + y1 % 128) * 128 + y2 % 128 = v at h ⊢
          unfold grp at h ⊢
          split at h
          · simp at h
          · split at h
            · simp at h
            · split at h
              · next q1 q2 q3 => rw [if_neg q1, if_neg q2, if_pos q3, show v / 16384 + 128 = y0 by omega, show v / 128 % 128 + 128 = y1 by omega, show v % 128 = y2 by omega]
              · simp at h
        · show 0 ≤ (((0 : Int) * 128 + y0 % 128) * 128 + y1 % 128) * 128 + y2 % 128 ∧ (((0 : Int) * 128 + y0 % 128) * 128 + y1 % 128) * 128 + y2 % 128 < _ ∧ (0 : Int) ≤ ((pre.length + 3 : Nat) : Int) ∧ ((pre.length + 3 : Nat) : Int) ≤ _
          omega
    · rw [decide_eq_false m1] at a1
      have d0 : s.drop 0 = s[0] :: s.drop 1 := List.drop_eq_getElem_cons (by omega)
      have d1 : s.drop 1 = s[1] :: s.drop 2 := List.drop_eq_getElem_cons (by omega)
      have hs : s = y0 :: y1 :: s.drop 2 := by
        rw [List.drop_zero] at d0
        exact d0.trans (by rw [g0, d1, g1])
      refine ⟨_, loop_in a0 (loop_in a1 (loop_end (stop _ 2))), .inr ⟨[y0, y1], s.drop 2, hs, by simp, rfl, ?_, ?_, ?_⟩, ?_⟩
      · show 0 ≤ ((0 : Int) * 128 + y0 % 128) * 128 + y1 % 128; omega
      · show ((0 : Int) * 128 + y0 % 128) * 128 + y1 % 128 < _; omega
      · show (grp (((0 : Int) * 128 + y0 % 128) * 128 + y1 % 128)).length = _ → _ = grp (((0 : Int) * 128 + y0 % 128) * 128 + y1 % 128)
        intro h
        generalize hv : ((0 : Int) * 128 + y0 % 128) * 128 + y1 % 128 = v at h ⊢
        unfold grp at h ⊢
        split at h
        · simp at h
        · split at h
          · next q1 q2 => rw [if_neg q1, if_pos q2, show v / 128 + 128 = y0 by omega, show v % 128 = y1 by omega]
          · split at h <;> simp at h
      · show 0 ≤ ((0 : Int) * 128 + y0 % 128) * 128 + y1 % 128 ∧ ((0 : Int) * 128 + y0 % 128) * 128 + y1 % 128 < _ ∧ (0 : Int) ≤ ((pre.length + 2 : Nat) : Int) ∧ ((pre.length + 2 : Nat) : Int) ≤ _
        omega
  · rw [decide_eq_false m0] at a0
    have d0 : s.drop 0 = s[0] :: s.drop 1 := List.drop_eq_getElem_cons (by omega)
    have hs : s = y0 :: s.drop 1 := by
      rw [List.drop_zero] at d0
      exact d0.trans (by rw [g0])
    refine ⟨_, loop_in a0 (loop_end (stop _ 1)), .inr ⟨[y0], s.drop 1, hs, by simp, rfl, ?_, ?_, ?_⟩, ?_⟩
    · show 0 ≤ (0 : Int) * 128 + y0 % 128; omega
    · show (0 : Int) * 128 + y0 % 128 < _; omega
    · show (grp ((0 : Int) * 128 + y0 % 128)).length = _ → _ = grp ((0 : Int) * 128 + y0 % 128)
      intro h
      generalize hv : (0 : Int) * 128 + y0 % 128 = v at h ⊢
      unfold grp at h ⊢
      split at h
      · next q1 => rw [if_pos q1, show v = y0 by omega]
      · split at h
        · simp at h
        · split at h <;> simp at h
    · show 0 ≤ (0 : Int) * 128 + y0 % 128 ∧ (0 : Int) * 128 + y0 % 128 < _ ∧ (0 : Int) ≤ ((pre.length + 1 : Nat) : Int) ∧ ((pre.length + 1 : Nat) : Int) ≤ _
      omega

set_option linter.unusedVariables false
set_option linter.unusedSimpArgs false
def OidR (o : List Int) : Prop := 1 ≤ o.length ∧ o.length ≤ 10 ∧ ∀ x ∈ o, 0 ≤ x ∧ x ≤ 100000
theorem readG {pre rest : List Int} {n : Int} (hn : 0 ≤ n ∧ n ≤ 100000) (hp : pre.length ≤ 1000) : loop (fun z : Int × Int × Int × Bool => spec_GetOid_l2 (pre ++ (grp n ++ rest)) z.1 z.2.1 z.2.2.1 z.2.2.2) ((pre.length : Int), 0, 0, true) = some (((pre.length + (grp n).length : Nat) : Int), n, ((grp n).length : Int), false) := by
  have hg := grp_byt (n := n) (by omega)
  have st : ∀ (m : Int) (j : Nat) (hj : j < (grp n).length), j < 4 → 0 ≤ m ∧ m ≤ 2097152 → spec_GetOid_l2 (pre ++ (grp n ++ rest)) ((pre.length + j : Nat) : Int) m (j : Int) true = some (.inl (((pre.length + (j + 1) : Nat) : Int), m * 128 + (grp n)[j] % 128, ((j + 1 : Nat) : Int), decide ((grp n)[j] > 127))) := fun m j hj h4 hm => by
    have hx := hg _ (List.getElem_mem hj)
    have hat : at? (pre ++ (grp n ++ rest)) ((pre.length + j : Nat) : Int) = some (grp n)[j] := by rw [at_pre, at_nat (by rw [List.length_append]; omega), List.getElem_append_left hj]
    unfold spec_GetOid_l2
    rw [dlt (show ((pre.length + j : Nat) : Int) < ((pre ++ (grp n ++ rest)).length : Int) by rw [List.length_append, List.length_append]; omega), cond_true, Option.bind_some, cond_true, dlt (show (j : Int) < 4 by omega), Option.bind_some, cond_true, hat, Option.bind_some, Option.bind_some, band127' hx, bor7 (by omega) (by omega), w64_nat (by omega), w64_nat (by omega)]
    rfl
  have stop : ∀ (m : Int) (j : Nat), spec_GetOid_l2 (pre ++ (grp n ++ rest)) ((pre.length + j : Nat) : Int) m (j : Int) false = some (.inr (((pre.length + j : Nat) : Int), m, (j : Int), false)) := fun m j => by
    unfold spec_GetOid_l2
    rfl
  unfold grp at st stop ⊢
  by_cases h1 : n ≤ 127
  · rw [if_pos h1] at st stop ⊢
    have s0 := st 0 0 (by simp) (by omega) (by omega)
    simp only [List.getElem_cons_zero] at s0
    rw [decide_eq_false (by omega), show (0 : Int) * 128 + n % 128 = n by omega] at s0
    exact loop_in s0 (loop_end (stop n 1))
  rw [if_neg h1] at st stop ⊢
  by_cases h2 : n ≤ 16383
  · rw [if_pos h2] at st stop ⊢
    have s0 := st 0 0 (by simp) (by omega) (by omega)
    have s1 := st (n / 128) 1 (by simp) (by omega) (by omega)
    simp only [List.getElem_cons_zero, List.getElem_cons_succ] at s0 s1
    rw [decide_eq_true (by omega), show (0 : Int) * 128 + (n / 128 + 128) % 128 = n / 128 by omega] at s0
    rw [decide_eq_false (by omega), show n / 128 * 128 + n % 128 % 128 = n by omega] at s1
    exact loop_in s0 (loop_in s1 (loop_end (stop n 2)))
  rw [if_neg h2] at st stop ⊢
  rw [if_pos (show n ≤ 2097151 by omega)] at st stop ⊢
  have s0 := st 0 0 (by simp) (by omega) (by omega)
  have s1 := st (n / 16384) 1 (by simp) (by omega) (by omega)
  have s2 := st (n / 128) 2 (by simp) (by omega) (by omega)
  simp only [List.getElem_cons_zero, List.getElem_cons_succ] at s0 s1 s2
  rw [decide_eq_true (by omega), show (0 : Int) * 128 + (n / 16384 + 128) % 128 = n / 16384 by omega] at s0
  rw [decide_eq_true (by omega), show n / 16384 * 128 + (n / 128 % 128 + 128) % 128 = n / 128 by omega] at s1
  rw [decide_eq_false (by omega), show n / 128 * 128 + n % 128 % 128 = n by omega] at s2
  exact loop_in s0 (loop_in s1 (loop_in s2 (loop_end (stop n 3))))
theorem readAllS {b : List Int} : ∀ (o pre out : List Int), b = pre ++ oidB o → (∀ x ∈ o, 0 ≤ x ∧ x ≤ 100000) → b.length ≤ 30 → out.length + o.length ≤ 10 → loop (fun z : Int × List Int => spec_GetOid_l0 b z.1 z.2) ((pre.length : Int), out) = some (.inl ((b.length : Int), out ++ o))
  | [], pre, out, e, _, hb, _ => by
    have hbl : b.length = pre.length := by rw [e]; simp [oidB]
    refine loop_end ?_
    show spec_GetOid_l0 b (pre.length : Int) out = _
    unfold spec_GetOid_l0
    rw [dnlt (by omega), cond_false, Option.bind_some, cond_false, List.append_nil, hbl]
  | n :: o, pre, out, e, hx, hb, hl => by
    have e1 : b = pre ++ (grp n ++ oidB o) := by rw [e]; rfl
    have e2 : b = (pre ++ grp n) ++ oidB o := by rw [e1, List.append_assoc]
    rw [List.length_cons] at hl
    have ih := readAllS o (pre ++ grp n) (out ++ [n]) e2 (fun x h => hx x (List.mem_cons_of_mem _ h)) hb (by simp; omega)
    rw [List.length_append, List.append_assoc] at ih
    have hpl : pre.length ≤ 30 := by rw [e1, List.length_append] at hb; omega
    have hg1 := grp_pos n
    have hbl : b.length = pre.length + (grp n).length + (oidB o).length := by rw [e2, List.length_append, List.length_append]
    have hr := readG (pre := pre) (rest := oidB o) (hx n (by simp)) (by omega)
    rw [← e1] at hr
    refine loop_in ?_ ih
    show spec_GetOid_l0 b (pre.length : Int) out = _
    unfold spec_GetOid_l0
    rw [dlt (show (pre.length : Int) < (b.length : Int) by omega), cond_true, decide_eq_true (show (out.length : Int) ≤ 10 by omega), Option.bind_some, cond_true, hr, Option.bind_some]
    have hx' := hx n (by simp)
    simp only [cond_false]
    rw [grpS (by omega), Option.bind_some, Option.bind_some]
    simp only [bne_self_eq_false, cond_false]
    rw [app_small (by simp; omega), Option.bind_some]
theorem oidB_app (a : List Int) (n : Int) : oidB (a ++ [n]) = oidB a ++ grp n := by unfold oidB; rw [List.flatMap_append]; simp
/-- What spec reads is what is written. -/
theorem soundS {b : List Int} (hb : Byt b) (hn : b.length ≤ M) : ∃ v, loop (fun z : Int × List Int => spec_GetOid_l0 b z.1 z.2) (0, []) = some v ∧ (v = .inr (false, []) ∨ ∃ out s, v = .inl (((oidB out).length : Int), out) ∧ b = oidB out ++ s ∧ out.length ≤ 11) := by
  have hn' : b.length ≤ 1048576 := hn
  exact loop_inv (step := fun z : Int × List Int => spec_GetOid_l0 b z.1 z.2) (fun k z => z.2.length = k ∧ z.1 = ((oidB z.2).length : Int) ∧ ∃ s, b = oidB z.2 ++ s) 11 (fun v => v = .inr (false, []) ∨ ∃ out s, v = .inl (((oidB out).length : Int), out) ∧ b = oidB out ++ s ∧ out.length ≤ 11)
    (fun k z hk ⟨z1, z2, s, z3⟩ => by
      obtain ⟨i, out⟩ := z
      simp only at z1 z2 z3
      subst z2
      have hbl : b.length = (oidB out).length + s.length := by rw [← List.length_append, ← z3]
      by_cases hlt : ((oidB out).length : Int) < (b.length : Int)
      · obtain ⟨d, d1, d2, d3, d4, d5, d6⟩ := readS z3 hb hn
        have hs : spec_GetOid_l0 b ((oidB out).length : Int) out = (cond d.2.2.2 (some true) ((spec_l2Group d.2.1).bind fun t51 => some ((t51.length : Int) != d.2.2.1))).bind fun t55 => cond t55 (some (.inr (.inr (false, ([] : List Int))))) ((app out [d.2.1]).bind fun zs60 => some (.inl (d.1, zs60))) := by
          unfold spec_GetOid_l0
          rw [dlt hlt, cond_true, decide_eq_true (show (out.length : Int) ≤ 10 by omega), Option.bind_some, cond_true, d1, Option.bind_some]
        show (∃ y, spec_GetOid_l0 b ((oidB out).length : Int) out = some (.inl y) ∧ _) ∨ ∃ v, spec_GetOid_l0 b ((oidB out).length : Int) out = some (.inr v) ∧ _
        rw [hs]
        rcases d2 with d2 | ⟨l, rest, q1, q2, q3, q4, q5, q6⟩
        · rw [d2]
          exact .inr ⟨_, rfl, .inl rfl⟩
        · have qb : d.2.2.2 = false := by rw [q3]
          have ql : d.2.2.1 = (l.length : Int) := by rw [q3]
          have qa : d.1 = (((oidB out).length + l.length : Nat) : Int) := by rw [q3]
          rw [qb, cond_false, grpS ⟨q4, q5⟩, Option.bind_some, Option.bind_some, ql]
          cases hne : (((grp d.2.1).length : Int) != (l.length : Int)) with
          | true => exact .inr ⟨_, rfl, .inl rfl⟩
          | false =>
            have he : ((grp d.2.1).length : Int) = (l.length : Int) := by simpa using hne
            have hl := q6 (by omega)
            refine .inl ⟨_, by rw [cond_false, app_small (by simp; omega), Option.bind_some], by simp; omega, ?_, rest, ?_⟩
            · show d.1 = ((oidB (out ++ [d.2.1])).length : Int)
              rw [oidB_app, List.length_append, qa, ← hl]
            · show b = oidB (out ++ [d.2.1]) ++ rest
              rw [oidB_app, ← hl, List.append_assoc, ← q1]; exact z3
      · refine .inr ⟨.inl (((oidB out).length : Int), out), ?_, .inr ⟨out, s, rfl, z3, by omega⟩⟩
        show spec_GetOid_l0 b ((oidB out).length : Int) out = _
        unfold spec_GetOid_l0
        rw [dnlt hlt]; rfl)
    (fun z ⟨z1, z2, s, z3⟩ => by
      obtain ⟨i, out⟩ := z
      simp only at z1 z2 z3
      subst z2
      refine ⟨.inl (((oidB out).length : Int), out), ?_, .inr ⟨out, s, rfl, z3, by omega⟩⟩
      show spec_GetOid_l0 b ((oidB out).length : Int) out = _
      unfold spec_GetOid_l0
      by_cases hlt : ((oidB out).length : Int) < (b.length : Int)
      · rw [dlt hlt, cond_true, decide_eq_false (by omega)]; rfl
      · rw [dnlt hlt]; rfl) (x := (0, [])) ⟨rfl, rfl, b, rfl⟩
theorem bytes_inj : ∀ {a b : List Int}, Byt a → Byt b → bytesOf a = bytesOf b → a = b
  | [], [], _, _, _ => rfl
  | [], _ :: _, _, _, h => by simp [bytesOf] at h
  | _ :: _, [], _, _, h => by simp [bytesOf] at h
  | x :: a, y :: b, ha, hb, h => by
    unfold bytesOf at h
    rw [List.map_cons, List.map_cons, List.cons.injEq] at h
    have hx := ha x (by simp)
    have hy := hb y (by simp)
    have h1 := congrArg UInt8.toNat h.1
    rw [UInt8.toNat_ofNat_of_lt' (by show x.toNat < 256; omega), UInt8.toNat_ofNat_of_lt' (by show y.toNat < 256; omega)] at h1
    rw [bytes_inj (fun z hz => ha z (List.mem_cons_of_mem _ hz)) (fun z hz => hb z (List.mem_cons_of_mem _ hz)) h.2, show x = y by omega]
theorem oidB_byt {o : List Int} (h : ∀ x ∈ o, 0 ≤ x ∧ x ≤ 100000) : Byt (oidB o) := by
  intro x hx
  obtain ⟨n, hn, hx⟩ := List.mem_flatMap.1 hx
  have := h n hn
  exact grp_byt (by omega) x hx
theorem oidB_pos {o : List Int} (h : 1 ≤ o.length) : 1 ≤ (oidB o).length := by
  cases o with
  | nil => simp at h
  | cons n o =>
    have := grp_pos n
    unfold oidB
    rw [List.flatMap_cons, List.length_append]; omega
/-- impl's reading ends. -/
theorem totalI {b : List Int} (hb : Byt b) (hn : b.length ≤ M) : ∃ v, loop (fun z : Int × Int × List Int => impl_GetOid_l0 b z.1 z.2.1 z.2.2) (0, 0, []) = some v ∧ (v = .inr (false, []) ∨ ∃ out, v = .inl out ∧ out.length ≤ M) := by
  have hn' : b.length ≤ 1048576 := hn
  exact loop_inv (step := fun z : Int × Int × List Int => impl_GetOid_l0 b z.1 z.2.1 z.2.2) (fun k z => z.2.1 = (k : Int) ∧ 0 ≤ z.1 ∧ z.2.2.length ≤ k) b.length (fun v => v = .inr (false, []) ∨ ∃ out, v = .inl out ∧ out.length ≤ M)
    (fun k z hk ⟨z1, z2, z3⟩ => by
      obtain ⟨n, i, out⟩ := z
      simp only at z1 z2 z3
      subst z1
      have hx := hb _ (List.getElem_mem hk)
      have hm : 0 ≤ min2 n 1048576 ∧ min2 n 1048576 ≤ 1048576 := by unfold min2; split <;> omega
      show (∃ y, impl_GetOid_l0 b n (k : Int) out = some (.inl y) ∧ _) ∨ ∃ v, impl_GetOid_l0 b n (k : Int) out = some (.inr v) ∧ _
      unfold impl_GetOid_l0
      rw [dlt (by omega), cond_true, at_nat hk, Option.bind_some]
      by_cases h40 : (k : Int) ≥ 40
      · rw [decide_eq_true h40]
        exact .inr ⟨_, rfl, .inl rfl⟩
      rw [decide_eq_false h40, cond_false, band127' hx, bor7 (by omega) (by omega), w64_nat (by omega)]
      simp only
      by_cases h : b[k] < 128
      · rw [decide_eq_true h, cond_true, app_small (by simp; omega), Option.bind_some]
        exact .inl ⟨_, rfl, rfl, by show (0 : Int) ≤ 0; omega, by simp; omega⟩
      · rw [decide_eq_false h, cond_false]
        exact .inl ⟨_, rfl, rfl, by show 0 ≤ min2 n 1048576 * 128 + b[k] % 128; omega, by show out.length ≤ k + 1; omega⟩)
    (fun z ⟨z1, z2, z3⟩ => by
      obtain ⟨n, i, out⟩ := z
      simp only at z1 z2 z3
      subst z1
      refine ⟨.inl out, ?_, .inr ⟨out, rfl, by show _ ≤ 1048576; omega⟩⟩
      show impl_GetOid_l0 b n (b.length : Int) out = _
      unfold impl_GetOid_l0
      rw [dnlt (by omega), cond_false]) (x := (0, 0, [])) ⟨rfl, by show (0 : Int) ≤ 0; omega, by simp⟩

set_option linter.unusedVariables false
set_option linter.unusedSimpArgs false
theorem oidR_of {o : List Int} (h : pOid o = true) : OidR o := by
  unfold pOid at h
  rw [Bool.and_eq_true, Bool.not_eq_true'] at h
  have h1 := pIn_true h.2
  refine ⟨by omega, by omega, fun x hx => ?_⟩
  obtain ⟨k, hk, rfl⟩ := List.getElem_of_mem hx
  have := List.any_eq_false.1 h.1 k (List.mem_range.2 hk)
  unfold bOid at this
  simp only [List.getElem?_eq_getElem hk] at this
  cases hp : pIn o[k] 0 100000 with
  | true => exact pIn_true hp
  | false => rw [hp] at this; exact absurd rfl this
theorem putOidX {o : List Int} (hn : o.length ≤ M) : impl_PutOid o = some (cond (pOid o) (oidB o) []) := by
  obtain ⟨v, h1, h2, h3⟩ := putOid hn
  rw [oidT (by have : o.length ≤ 1048576 := hn; omega)] at h1
  cases h1; exact h3
theorem getOid {b : List Int} (hb : Byt b) (hn : b.length ≤ M) : ∃ r, impl_GetOid b = some r ∧ spec_GetOid b = some r ∧ (r = ([], false) ∨ ∃ o, r = (o, true) ∧ b = oidB o ∧ pOid o = true) := by
  have hn' : b.length ≤ 1048576 := hn
  -- what was written is read, by both
  have both : ∀ o, pOid o = true → b = oidB o → impl_GetOid b = some (o, true) ∧ spec_GetOid b = some (o, true) := by
    intro o ho e
    obtain ⟨o1, o2, o3⟩ := oidR_of ho
    have hbl : b.length ≤ 30 := by rw [e]; have := oidB_len (o := o) fun x hx => (o3 x hx).2; omega
    have hpos := oidB_pos o1
    constructor
    · unfold impl_GetOid
      have := readAllI (b := b) o [] [] (by rw [e]; rfl) o3 hbl (by simp; omega)
      simp only [List.length_nil, Int.natCast_zero, List.nil_append] at this
      have this' : loop (fun z : Int × Int × List Int => impl_GetOid_l0 b z.1 z.2.1 z.2.2) (0, 0, []) = some (.inl o) := this
      rw [this', Option.bind_some, Sum.elim_inl, putOidX (by show _ ≤ 1048576; omega), Option.bind_some, ho, cond_true, ← e, beq_eq_false_iff_ne.2 (show ((b.length : Int)) ≠ 0 by rw [e]; omega), cond_false, beq_self_eq_true]; rfl
    · unfold spec_GetOid
      have := readAllS (b := b) o [] [] (by rw [e]; rfl) o3 hbl (by simp; omega)
      simp only [List.length_nil, List.nil_append] at this
      have this' : loop (fun z : Int × List Int => spec_GetOid_l0 b z.1 z.2) (0, []) = some (.inl ((b.length : Int), o)) := this
      rw [this', Option.bind_some, Sum.elim_inl]
      simp only [bne_self_eq_false, cond_false]
      rw [oidS, oidT (by omega), Option.bind_some, ho]; rfl
  obtain ⟨v, v1, v2⟩ := soundS hb hn
  have sp : spec_GetOid b = some ([], false) ∨ ∃ o, pOid o = true ∧ b = oidB o := by
    unfold spec_GetOid
    rw [v1, Option.bind_some]
    rcases v2 with rfl | ⟨out, s, rfl, q1, q2⟩
    · exact .inl rfl
    · simp only [Sum.elim_inl]
      cases hne : (((oidB out).length : Int) != (b.length : Int)) with
      | true => exact .inl rfl
      | false =>
        rw [cond_false, oidS, oidT (by omega), Option.bind_some]
        cases ho : pOid out with
        | false => exact .inl rfl
        | true =>
          have he : ((oidB out).length : Int) = (b.length : Int) := by simpa using hne
          have : s = [] := by
            have := congrArg List.length q1
            rw [List.length_append] at this
            exact List.length_eq_zero_iff.1 (by omega)
          subst this
          exact .inr ⟨out, ho, by rw [q1, List.append_nil]⟩
  rcases sp with sp | ⟨o, ho, e⟩
  · obtain ⟨u, u1, u2⟩ := totalI hb hn
    have im : impl_GetOid b = some ([], false) ∨ ∃ o, pOid o = true ∧ b = oidB o := by
      unfold impl_GetOid
      rw [u1, Option.bind_some]
      rcases u2 with rfl | ⟨out, rfl, hl⟩
      · exact .inl rfl
      · rw [Sum.elim_inl, putOidX hl, Option.bind_some]
        cases ho : pOid out with
        | false => exact .inl rfl
        | true =>
          obtain ⟨o1, o2, o3⟩ := oidR_of ho
          have hpos := oidB_pos o1
          rw [cond_true, beq_eq_false_iff_ne.2 (show (((oidB out).length : Int)) ≠ 0 by omega), cond_false]
          cases hq : (bytesOf (oidB out) == bytesOf b) with
          | false => exact .inl rfl
          | true => exact .inr ⟨out, ho, (bytes_inj (oidB_byt o3) hb (eq_of_beq hq)).symm⟩
    rcases im with im | ⟨o, ho, e⟩
    · exact ⟨_, im, sp, .inl rfl⟩
    · obtain ⟨b1, b2⟩ := both o ho e
      exact ⟨_, b1, b2, .inr ⟨o, rfl, e, ho⟩⟩
  · obtain ⟨b1, b2⟩ := both o ho e
    exact ⟨_, b1, b2, .inr ⟨o, rfl, e, ho⟩⟩

set_option linter.unusedVariables false
set_option linter.unusedSimpArgs false
/-! ### values read -/
theorem ints_bytes : ∀ {b : List Int}, Byt b → intsOf (bytesOf b) = b
  | [], _ => rfl
  | x :: b, h => by
    have hx := h x (by simp)
    have ih := ints_bytes (b := b) fun y hy => h y (List.mem_cons_of_mem _ hy)
    unfold intsOf bytesOf at ih ⊢
    rw [List.map_cons, List.map_cons, ih]
    congr 1
    show ((UInt8.ofNat x.toNat).toNat : Int) = x
    rw [UInt8.toNat_ofNat_of_lt' (by show x.toNat < 256; omega)]
    omega
def valB (v : Val) : List Int := cond (v.1 == 2) (intB v.2.1) (cond (v.1 == 4) (intsOf v.2.2.1) (cond (v.1 == 6) (oidB v.2.2.2) []))
theorem oid_len {o : List Int} (h : pOid o = true) : o.length ≤ 10 := (oidR_of h).2.1
theorem getVal {b : List Int} (hb : Byt b) (hn : b.length ≤ M) {i : Int} (hi : -9223372036854775808 ≤ i ∧ i ≤ 9223372036854775807) : ∃ r, impl_GetVal b i = some r ∧ spec_GetVal b i = some r ∧ (r = ((0, 0, [], []), 0, false) ∨ ∃ v next, r = (v, next, true) ∧ pVal v = true ∧ Part b i v.1 (valB v) next) := by
  have hM : M = 1048576 := rfl
  obtain ⟨r, r1, r2, r3⟩ := getTlv hb hn hi
  unfold impl_GetVal spec_GetVal
  rw [r1, r2, Option.bind_some, Option.bind_some]
  have hrl : r.2.1.length ≤ 250 ∧ Byt r.2.1 := by
    rcases r3 with rfl | ⟨t, body, next, rfl, h⟩
    · exact ⟨by simp, fun x hx => by simp at hx⟩
    · exact ⟨h.n, h.b⟩
  have hlM : r.2.1.length ≤ M := by omega
  rcases r3 with rfl | ⟨t, body, next, rfl, h⟩
  · exact ⟨_, rfl, rfl, .inl rfl⟩
  simp only at hrl hlM
  simp only [Bool.not_true, cond_false]
  by_cases t2 : t = 2
  · subst t2
    obtain ⟨g, g1, g2, g3⟩ := getInt hrl.2 hlM
    simp only [show ((2 : Int) == 2) = true from rfl, cond_true, g1, g2, Option.bind_some]
    rcases g3 with rfl | ⟨n, rfl, q1, q2, q3⟩
    · exact ⟨_, rfl, rfl, .inl rfl⟩
    · simp only [Bool.not_true, cond_false, Option.bind_some, valT (v := (2, n, [], [])) (by simp), valS (v := (2, n, [], [])) (by simp)]
      cases hv : pVal (2, n, [], []) with
      | false => exact ⟨_, rfl, rfl, .inl rfl⟩
      | true => exact ⟨_, rfl, rfl, .inr ⟨_, _, rfl, hv, by have : valB (2, n, [], []) = body := q1.symm; rw [this]; exact h⟩⟩
  rw [beq_eq_false_iff_ne.2 t2]
  simp only [cond_false]
  by_cases t4 : t = 4
  · subst t4
    simp only [show ((4 : Int) == 4) = true from rfl, cond_true, Bool.not_true, Option.bind_some, cond_false, valT (v := (4, 0, bytesOf body, [])) (by simp), valS (v := (4, 0, bytesOf body, [])) (by simp)]
    cases hv : pVal (4, 0, bytesOf body, []) with
    | false => exact ⟨_, rfl, rfl, .inl rfl⟩
    | true => exact ⟨_, rfl, rfl, .inr ⟨_, _, rfl, hv, by have : valB (4, 0, bytesOf body, []) = body := ints_bytes h.b; rw [this]; exact h⟩⟩
  rw [beq_eq_false_iff_ne.2 t4]
  simp only [cond_false]
  by_cases t6 : t = 6
  · subst t6
    obtain ⟨g, g1, g2, g3⟩ := getOid hrl.2 hlM
    simp only [show ((6 : Int) == 6) = true from rfl, cond_true, g1, g2, Option.bind_some]
    rcases g3 with rfl | ⟨o, rfl, q1, q2⟩
    · exact ⟨_, rfl, rfl, .inl rfl⟩
    · have ol := oid_len q2
      simp only [Bool.not_true, cond_false, Option.bind_some, valT (v := (6, 0, [], o)) (by show o.length ≤ M; omega), valS (v := (6, 0, [], o)) (by show o.length ≤ M; omega)]
      cases hv : pVal (6, 0, [], o) with
      | false => exact ⟨_, rfl, rfl, .inl rfl⟩
      | true => exact ⟨_, rfl, rfl, .inr ⟨_, _, rfl, hv, by have : valB (6, 0, [], o) = body := q1.symm; rw [this]; exact h⟩⟩
  rw [beq_eq_false_iff_ne.2 t6]
  simp only [cond_false]
  cases hz : ((body.length : Int) == 0) with
  | false => exact ⟨_, rfl, rfl, .inl rfl⟩
  | true =>
    have hb0 : body = [] := List.length_eq_zero_iff.1 (by have : (body.length : Int) = 0 := eq_of_beq hz; omega)
    simp only [Bool.not_true, cond_false, Option.bind_some, valT (v := (t, 0, [], [])) (by simp), valS (v := (t, 0, [], [])) (by simp)]
    cases hv : pVal (t, 0, [], []) with
    | false => exact ⟨_, rfl, rfl, .inl rfl⟩
    | true =>
      refine ⟨_, rfl, rfl, .inr ⟨_, _, rfl, hv, ?_⟩⟩
      have : valB (t, 0, [], []) = body := by
        unfold valB
        simp only [beq_eq_false_iff_ne.2 t2, beq_eq_false_iff_ne.2 t4, beq_eq_false_iff_ne.2 t6, cond_false]
        exact hb0.symm
      rw [this]; exact h
/-! ### a reader -/
/-- The reader has gone through what is ahead of at. -/
theorem partX {r : L4Reader} (hb : Byt r.1) (hn : r.1.length ≤ M) (hi : -9223372036854775808 ≤ r.2.1 ∧ r.2.1 ≤ 9223372036854775807) (tag : Int) : ∃ d, impl_parts_part r tag = some d ∧ spec_l4Part r tag = some d ∧ d.1.1 = r.1 ∧ (d.1.2.2 = true → d.2 = []) ∧ (r.2.2 = true → d.1.2.2 = true) ∧ (d.1.2.2 = false → r.2.2 = false ∧ Part r.1 r.2.1 tag d.2 d.1.2.1) ∧ (d.1.2.2 = true → d.1.2.1 = r.2.1) := by
  obtain ⟨g, g1, g2, g3⟩ := getTlv hb hn hi
  unfold impl_parts_part spec_l4Part
  rw [g1, g2, Option.bind_some]
  rcases g3 with rfl | ⟨t, body, next, rfl, h⟩
  · cases hr : r.2.2 with
    | true => exact ⟨_, rfl, rfl, rfl, fun _ => rfl, fun _ => rfl, fun e => (by cases e), fun _ => rfl⟩
    | false => exact ⟨_, rfl, rfl, rfl, fun _ => rfl, fun _ => rfl, fun e => (by cases e), fun _ => rfl⟩
  · cases hr : r.2.2 with
    | true => exact ⟨_, rfl, rfl, rfl, fun _ => rfl, fun _ => rfl, fun e => (by cases e), fun _ => rfl⟩
    | false =>
      simp only [cond_false, Bool.not_true, Option.bind_some]
      cases ht : (t != tag) with
      | true => exact ⟨_, rfl, rfl, rfl, fun _ => rfl, fun _ => rfl, fun e => (by cases e), fun _ => rfl⟩
      | false =>
        have : t = tag := by simpa using ht
        subst this
        exact ⟨_, rfl, rfl, rfl, fun e => (by cases e), fun e => (by cases e), fun _ => ⟨by first | rfl | trivial, h⟩, fun e => (by cases e)⟩

set_option linter.unusedVariables false
set_option linter.unusedSimpArgs false
structure RdOk (r : L4Reader) : Prop where
  b : Byt r.1
  n : r.1.length ≤ M
  lo : 0 ≤ r.2.1
  hi : r.2.1 ≤ (r.1.length : Int)
theorem Part.next {b : List Int} {i t : Int} {body : List Int} {next : Int} (h : Part b i t body next) : 0 ≤ next ∧ next ≤ (b.length : Int) := by
  obtain ⟨pre, rest, e1, e2, e3⟩ := h.ex
  have := congrArg List.length e1
  rw [List.length_append, List.length_append] at this
  omega
theorem RdOk.rg {r : L4Reader} (h : RdOk r) : -9223372036854775808 ≤ r.2.1 ∧ r.2.1 ≤ 9223372036854775807 := by
  have h1 := h.lo; have h2 := h.hi
  have h3 : r.1.length ≤ 1048576 := h.n
  omega
theorem byt_nil : Byt [] := fun x hx => by simp at hx
theorem partY {r : L4Reader} (h : RdOk r) (tag : Int) : ∃ d, impl_parts_part r tag = some d ∧ spec_l4Part r tag = some d ∧ RdOk d.1 ∧ d.1.1 = r.1 ∧ Byt d.2 ∧ d.2.length ≤ 250 ∧ (d.1.2.2 = true → d.2 = []) ∧ (r.2.2 = true → d.1.2.2 = true) ∧ (d.1.2.2 = false → r.2.2 = false ∧ Part r.1 r.2.1 tag d.2 d.1.2.1) := by
  obtain ⟨d, d1, d2, d3, d4, d5, d6, d7⟩ := partX h.b h.n h.rg tag
  refine ⟨d, d1, d2, ?_, d3, ?_, ?_, d4, d5, d6⟩
  · cases hb : d.1.2.2 with
    | true => exact ⟨by rw [d3]; exact h.b, by rw [d3]; exact h.n, by rw [d7 hb]; exact h.lo, by rw [d7 hb, d3]; exact h.hi⟩
    | false =>
      have := (d6 hb).2.next
      exact ⟨by rw [d3]; exact h.b, by rw [d3]; exact h.n, this.1, by rw [d3]; exact this.2⟩
  · cases hb : d.1.2.2 with
    | true => rw [d4 hb]; exact byt_nil
    | false => exact (d6 hb).2.b
  · cases hb : d.1.2.2 with
    | true => rw [d4 hb]; simp
    | false => exact (d6 hb).2.n
theorem numX {r : L4Reader} (h : RdOk r) : ∃ d, impl_parts_num r 2 = some d ∧ spec_l4Num r = some d ∧ RdOk d.1 ∧ d.1.1 = r.1 ∧ (r.2.2 = true → d.1.2.2 = true) ∧ (d.1.2.2 = false → r.2.2 = false ∧ Part r.1 r.2.1 2 (intB d.2) d.1.2.1 ∧ -2147483648 ≤ d.2 ∧ d.2 ≤ 2147483647) := by
  obtain ⟨d, d1, d2, d3, d4, d5, d6, d7, d8, d9⟩ := partY h 2
  have hM : M = 1048576 := rfl
  obtain ⟨g, g1, g2, g3⟩ := getInt d5 (by omega)
  unfold impl_parts_num spec_l4Num
  rw [d1, d2, Option.bind_some, Option.bind_some, g1, g2, Option.bind_some]
  cases hb : d.1.2.2 with
  | true =>
    refine ⟨_, rfl, rfl, ⟨d3.b, d3.n, d3.lo, d3.hi⟩, d4, fun _ => rfl, fun e => (by cases e)⟩
  | false =>
    obtain ⟨q1, q2⟩ := d9 hb
    rcases g3 with rfl | ⟨n, rfl, e, n1, n2⟩
    · exact ⟨_, rfl, rfl, ⟨d3.b, d3.n, d3.lo, d3.hi⟩, d4, fun _ => rfl, fun e => (by cases e)⟩
    · refine ⟨_, rfl, rfl, ⟨d3.b, d3.n, d3.lo, d3.hi⟩, d4, fun e => ?_, fun _ => ⟨q1, ?_, n1, n2⟩⟩
      · rw [q1] at e; cases e
      · rw [← e]; exact q2
theorem bindX {b : List Int} (hb : Byt b) (hn : b.length ≤ M) : ∃ r, impl_bindOf b = some r ∧ spec_l4Bind b = some r ∧ (r = (([], 0, 0, [], []), false) ∨ ∃ x, r = (x, true) ∧ xOk x = true ∧ b = tlvL 6 (oidB x.1) ++ tlvL x.2.1 (valB x.2)) := by
  have hM : M = 1048576 := rfl
  have h0 : RdOk (b, 0, false) := ⟨hb, hn, by show (0 : Int) ≤ 0; omega, by show (0 : Int) ≤ (b.length : Int); omega⟩
  obtain ⟨d, d1, d2, d3, d4, d5, d6, d7, d8, d9⟩ := partY h0 6
  obtain ⟨g, g1, g2, g3⟩ := getOid d5 (by omega)
  obtain ⟨v, v1, v2, v3⟩ := getVal hb hn d3.rg
  unfold impl_bindOf spec_l4Bind
  simp only [d1, d2, g1, g2, v1, v2, Option.bind_some]
  cases hbad : d.1.2.2 with
  | true => exact ⟨_, rfl, rfl, .inl rfl⟩
  | false =>
    simp only [cond_false, Option.bind_some]
    obtain ⟨_, hp⟩ := d9 hbad
    rcases g3 with rfl | ⟨o, rfl, go, ho⟩
    · exact ⟨_, rfl, rfl, .inl rfl⟩
    simp only [Bool.not_true, cond_false, Option.bind_some]
    rcases v3 with rfl | ⟨w, next, rfl, hw, hp2⟩
    · exact ⟨_, rfl, rfl, .inl rfl⟩
    simp only [Bool.not_true, cond_false, Option.bind_some]
    cases hne : (next != (b.length : Int)) with
    | true => exact ⟨_, rfl, rfl, .inl rfl⟩
    | false =>
      have hnx : next = (b.length : Int) := by simpa using hne
      refine ⟨_, rfl, rfl, .inr ⟨(o, w), rfl, by unfold xOk; rw [ho, hw]; rfl, ?_⟩⟩
      obtain ⟨p1, r1, e1, e2, e3⟩ := hp.ex
      obtain ⟨p2, r2, f1, f2, f3⟩ := hp2.ex
      have hp1 : p1 = [] := by
        have e2' : (0 : Int) = (p1.length : Int) := e2
        exact List.length_eq_zero_iff.1 (by omega)
      subst hp1
      have e1' : b = tlvL 6 d.2 ++ r1 := by simpa using e1
      have hl : p2.length = (tlvL 6 d.2).length := by
        rw [e3] at f2
        simp at f2; omega
      obtain ⟨q1, q2⟩ := List.append_inj (f1.symm.trans e1') hl
      have hr2 : r2 = [] := by
        have := congrArg List.length f1
        rw [List.length_append, List.length_append] at this
        exact List.length_eq_zero_iff.1 (by omega)
      show b = tlvL 6 (oidB o) ++ tlvL w.1 (valB w)
      rw [f1, q1, go, hr2, List.append_nil]

set_option linter.unusedVariables false
set_option linter.unusedSimpArgs false
/-! ### what is written -/
theorem intB_len (n : Int) : (intB n).length ≤ 4 := by unfold intB; split <;> (try split) <;> (try split) <;> simp
theorem tlvL_len (t : Int) {body : List Int} : (tlvL t body).length ≤ body.length + 3 := by unfold tlvL; split <;> simp <;> omega
theorem pVal_len {v : Val} (h : pVal v = true) : (valB v).length ≤ 30 ∧ pIn v.1 0 255 = true ∧ v.2.2.2.length ≤ 10 ∧ v.2.2.1.length ≤ 20 := by
  obtain ⟨k, n, s, o⟩ := v
  have inn : ∀ {x : Int}, 0 ≤ x → x ≤ 255 → pIn x 0 255 = true := fun h1 h2 => by unfold pIn; rw [decide_eq_true h1, decide_eq_true h2]; rfl
  unfold pVal at h
  simp only at h
  unfold valB
  simp only
  by_cases h1 : (k == 5 || (k == 128 || k == 130)) = true
  · rw [h1, cond_true] at h
    simp only [Bool.and_eq_true, beq_iff_eq] at h
    simp only [Bool.or_eq_true, beq_iff_eq] at h1
    obtain ⟨_, rfl, ho⟩ := h
    rcases h1 with rfl | rfl | rfl <;> exact ⟨by simp, by decide, by omega, by simp⟩
  · have h1' : (k == 5 || (k == 128 || k == 130)) = false := by simpa using h1
    rw [h1', cond_false] at h
    by_cases h2 : k = 2
    · subst h2
      simp only [show ((2 : Int) == 2) = true from rfl, cond_true, Bool.and_eq_true, beq_iff_eq] at h ⊢
      obtain ⟨_, rfl, ho⟩ := h
      have := intB_len n
      exact ⟨by omega, by decide, by omega, by simp⟩
    rw [beq_eq_false_iff_ne.2 h2, cond_false] at h ⊢
    by_cases h4 : k = 4
    · subst h4
      simp only [show ((4 : Int) == 4) = true from rfl, cond_true, Bool.and_eq_true, beq_iff_eq, decide_eq_true_eq] at h ⊢
      obtain ⟨h5, _, ho⟩ := h
      exact ⟨by unfold intsOf; rw [List.length_map]; omega, by decide, by omega, by omega⟩
    rw [beq_eq_false_iff_ne.2 h4, cond_false] at h ⊢
    by_cases h6 : k = 6
    · subst h6
      simp only [show ((6 : Int) == 6) = true from rfl, cond_true, Bool.and_eq_true, beq_iff_eq] at h ⊢
      obtain ⟨ho, _, rfl⟩ := h
      obtain ⟨o1, o2, o3⟩ := oidR_of ho
      have := oidB_len (o := o) fun x hx => (o3 x hx).2
      exact ⟨by omega, by decide, by omega, by simp⟩
    · rw [beq_eq_false_iff_ne.2 h6, cond_false] at h
      cases h
theorem putVal {b : List Int} (hb : b.length ≤ 1000) {v : Val} (h : pVal v = true) : impl_PutVal b v = some (b ++ tlvL v.1 (valB v)) := by
  obtain ⟨l1, l2, l3, l4⟩ := pVal_len h
  have hM : M = 1048576 := rfl
  have fin : ∀ body : List Int, valB v = body → impl_PutTlv b v.1 body = some (b ++ tlvL v.1 (valB v)) := fun body e => by
    subst e
    rw [putTlv _ hb (by omega), if_pos ⟨l2, by omega⟩]
  unfold impl_PutVal
  rw [valT (by omega), h, Option.bind_some]
  simp only [Bool.not_true, cond_false]
  by_cases h2 : v.1 = 2
  · have e : valB v = intB v.2.1 := by unfold valB; rw [beq_iff_eq.2 h2]; rfl
    have hr : -2147483648 ≤ v.2.1 ∧ v.2.1 ≤ 2147483647 := by
      unfold pVal at h
      rw [h2] at h
      simp only [show ((2 : Int) == 5) = false from rfl, show ((2 : Int) == 128) = false from rfl, show ((2 : Int) == 130) = false from rfl, Bool.or_self, cond_false, show ((2 : Int) == 2) = true from rfl, cond_true, Bool.and_eq_true] at h
      exact pIn_true h.1
    rw [beq_iff_eq.2 h2, cond_true, putInt (by omega), Option.bind_some, clip_id hr, fin _ e]; rfl
  rw [beq_eq_false_iff_ne.2 h2, cond_false]
  by_cases h4 : v.1 = 4
  · have e : valB v = intsOf v.2.2.1 := by unfold valB; rw [beq_eq_false_iff_ne.2 h2, beq_iff_eq.2 h4]; rfl
    rw [beq_iff_eq.2 h4, cond_true, fin _ e]; rfl
  rw [beq_eq_false_iff_ne.2 h4, cond_false]
  by_cases h6 : v.1 = 6
  · have e : valB v = oidB v.2.2.2 := by unfold valB; rw [beq_eq_false_iff_ne.2 h2, beq_eq_false_iff_ne.2 h4, beq_iff_eq.2 h6]; rfl
    have ho : pOid v.2.2.2 = true := by
      unfold pVal at h
      rw [h6] at h
      simp only [show ((6 : Int) == 5) = false from rfl, show ((6 : Int) == 128) = false from rfl, show ((6 : Int) == 130) = false from rfl, Bool.or_self, cond_false, show ((6 : Int) == 2) = false from rfl, show ((6 : Int) == 4) = false from rfl, show ((6 : Int) == 6) = true from rfl, cond_true, Bool.and_eq_true] at h
      exact h.1
    rw [beq_iff_eq.2 h6, cond_true, putOidX (by omega), ho, cond_true, Option.bind_some, fin _ e]; rfl
  · have e : valB v = [] := by unfold valB; rw [beq_eq_false_iff_ne.2 h2, beq_eq_false_iff_ne.2 h4, beq_eq_false_iff_ne.2 h6]; rfl
    rw [beq_eq_false_iff_ne.2 h6, cond_false, fin _ e]; rfl
def oneB (x : Bind) : List Int := tlvL 6 (oidB x.1) ++ tlvL x.2.1 (valB x.2)
def bindB (x : Bind) : List Int := tlvL 48 (oneB x)
def allB (l : List Bind) : List Int := l.flatMap bindB
def bodyB (p : Pdu) : List Int := tlvL 2 (intB p.2.1) ++ tlvL 2 (intB p.2.2.1) ++ tlvL 2 (intB p.2.2.2.1) ++ tlvL 48 (allB p.2.2.2.2)
theorem pPdu_parts {p : Pdu} (h : pPdu p = true) : (∀ x ∈ p.2.2.2.2, xOk x = true) ∧ p.2.2.2.2.length ≤ 10 ∧ pIn p.1 0 255 = true ∧ (-2147483648 ≤ p.2.1 ∧ p.2.1 ≤ 2147483647) ∧ (0 ≤ p.2.2.1 ∧ p.2.2.1 ≤ 1000) ∧ (0 ≤ p.2.2.2.1 ∧ p.2.2.2.1 ≤ 1000) := by
  obtain ⟨k, id, a, b, l⟩ := p
  unfold pPdu at h
  simp only [Bool.and_eq_true, Bool.not_eq_true', decide_eq_true_eq] at h
  obtain ⟨⟨h1, h2⟩, h3, h4⟩ := h
  refine ⟨fun x hx => ?_, by show l.length ≤ 10; omega, ?_⟩
  · obtain ⟨j, hj, rfl⟩ := List.getElem_of_mem hx
    have hj' : j < l.length := hj
    have := List.any_eq_false.1 h1 j (List.mem_range.2 hj')
    unfold bX at this
    simp only [List.getElem?_eq_getElem hj'] at this
    simpa using this
  · have h4 := pIn_true h4
    by_cases c1 : (k == 162 || k == 165) = true
    · rw [c1, cond_true, Bool.and_eq_true] at h3
      have q1 := pIn_true h3.1
      have q2 := pIn_true h3.2
      simp only [Bool.or_eq_true, beq_iff_eq] at c1
      refine ⟨?_, h4, q1, q2⟩
      rcases c1 with rfl | rfl <;> rfl
    · have c1' : (k == 162 || k == 165) = false := by simpa using c1
      rw [c1', cond_false] at h3
      by_cases c2 : (k == 160 || (k == 161 || k == 163)) = true
      · rw [c2, cond_true, Bool.and_eq_true] at h3
        simp only [beq_iff_eq] at h3
        simp only [Bool.or_eq_true, beq_iff_eq] at c2
        obtain ⟨rfl, rfl⟩ := h3
        refine ⟨?_, h4, by show (0 : Int) ≤ 0 ∧ (0 : Int) ≤ 1000; omega, by show (0 : Int) ≤ 0 ∧ (0 : Int) ≤ 1000; omega⟩
        rcases c2 with rfl | rfl | rfl <;> rfl
      · have c2' : (k == 160 || (k == 161 || k == 163)) = false := by simpa using c2
        rw [c2', cond_false] at h3
        cases h3
theorem bindB_len {x : Bind} (h : xOk x = true) : (oneB x).length ≤ 100 ∧ (bindB x).length ≤ 110 := by
  unfold xOk at h
  rw [Bool.and_eq_true] at h
  obtain ⟨l1, _⟩ := pVal_len h.2
  obtain ⟨o1, o2, o3⟩ := oidR_of h.1
  have h3 := oidB_len (o := x.1) fun y hy => (o3 y hy).2
  have h4 := tlvL_len 6 (body := oidB x.1)
  have h5 := tlvL_len x.2.1 (body := valB x.2)
  have h6 : (oneB x).length ≤ 100 := by unfold oneB; rw [List.length_append]; omega
  have h7 := tlvL_len 48 (body := oneB x)
  exact ⟨h6, by unfold bindB; omega⟩
theorem addNum {b : List Int} (hb : b.length ≤ 900) {n : Int} (hn : -2147483648 ≤ n ∧ n ≤ 2147483647) : impl_addNum b 2 n = some (b ++ tlvL 2 (intB n)) := by
  unfold impl_addNum
  have h4 := intB_len n
  rw [putInt (by omega), Option.bind_some, clip_id hn, putTlv _ (by omega) (by show _ ≤ 1048576; omega), Option.bind_some, if_pos ⟨by decide, by omega⟩]
/-- What a request is written as. -/
theorem putPdu {p : Pdu} (hp : PLe M p) : impl_PutPdu p = some (if pPdu p = true ∧ (allB p.2.2.2.2).length ≤ 250 ∧ (bodyB p).length ≤ 250 then tlvL p.1 (bodyB p) else []) := by
  unfold impl_PutPdu
  rw [pduT hp, Option.bind_some]
  cases h : pPdu p with
  | false => rw [if_neg (by simp)]; rfl
  | true =>
    obtain ⟨h1, h2, h3, h4, h5, h6⟩ := pPdu_parts h
    have hl : ∀ k, (allB (p.2.2.2.2.take k)).length ≤ 110 * k := by
      intro k
      induction k with
      | zero => simp [allB]
      | succ k ih =>
        by_cases hk : k < p.2.2.2.2.length
        · have ht : allB (p.2.2.2.2.take (k + 1)) = allB (p.2.2.2.2.take k) ++ bindB p.2.2.2.2[k] := by
            unfold allB
            rw [List.take_add_one, List.getElem?_eq_getElem hk, List.flatMap_append]; simp
          have := (bindB_len (h1 _ (List.getElem_mem hk))).2
          rw [ht, List.length_append]; omega
        · rw [List.take_of_length_le (by omega)] at ih ⊢; omega
    obtain ⟨b, e1, rfl⟩ := loop_inv (step := fun z : Int × List Int => impl_PutPdu_l0 p z.1 z.2) (fun k z => z = ((k : Int), allB (p.2.2.2.2.take k))) p.2.2.2.2.length (fun b => b = .inl (allB p.2.2.2.2))
      (fun k z hk e => by
        subst e
        left
        have hx := h1 _ (List.getElem_mem hk)
        have hx' := hx
        unfold xOk at hx'
        rw [Bool.and_eq_true] at hx'
        obtain ⟨o1, o2, o3⟩ := oidR_of hx'.1
        have hob := oidB_len (o := p.2.2.2.2[k].1) fun y hy => (o3 y hy).2
        have hlk := hl k
        obtain ⟨b1, b2⟩ := bindB_len hx
        have ht : allB (p.2.2.2.2.take (k + 1)) = allB (p.2.2.2.2.take k) ++ bindB p.2.2.2.2[k] := by
          unfold allB
          rw [List.take_add_one, List.getElem?_eq_getElem hk, List.flatMap_append]; simp
        have ht6 := tlvL_len 6 (body := oidB p.2.2.2.2[k].1)
        refine ⟨_, ?_, rfl⟩
        show impl_PutPdu_l0 p (k : Int) (allB (p.2.2.2.2.take k)) = _
        unfold impl_PutPdu_l0
        rw [dlt (by omega), cond_true, at_nat hk, Option.bind_some, putOidX (by show _ ≤ 1048576; omega), hx'.1, cond_true, Option.bind_some, putTlv _ (by simp) (by show _ ≤ 1048576; omega), if_pos ⟨by decide, by omega⟩, Option.bind_some, List.nil_append, putVal (by omega) hx'.2, Option.bind_some]
        have hone : tlvL 6 (oidB p.2.2.2.2[k].1) ++ tlvL p.2.2.2.2[k].2.1 (valB p.2.2.2.2[k].2) = oneB p.2.2.2.2[k] := rfl
        rw [hone, tlvX _ (by show _ ≤ 1048576; omega), if_pos ⟨by decide, by omega⟩, Option.bind_some]
        simp only [Bool.not_true, cond_false]
        have hbb : tlvL 48 (oneB p.2.2.2.2[k]) = bindB p.2.2.2.2[k] := rfl
        rw [hbb, app_small (by omega), Option.bind_some, w64_nat (by omega), ht])
      (fun z e => by
        subst e
        refine ⟨_, ?_, rfl⟩
        show impl_PutPdu_l0 p (p.2.2.2.2.length : Int) (allB (p.2.2.2.2.take p.2.2.2.2.length)) = _
        unfold impl_PutPdu_l0
        rw [dnlt (by omega), cond_false, List.take_length]) (x := (0, [])) rfl
    have hal : (allB p.2.2.2.2).length ≤ 1100 := by
      have := hl p.2.2.2.2.length
      rw [List.take_length] at this; omega
    rw [Bool.not_true, cond_false, e1, Option.bind_some, Sum.elim_inl, tlvX _ (by show _ ≤ 1048576; omega)]
    by_cases ha : (allB p.2.2.2.2).length ≤ 250
    · rw [if_pos ⟨by decide, ha⟩, Option.bind_some]
      simp only [Bool.not_true, cond_false]
      have t1 := tlvL_len 2 (body := intB p.2.1)
      have t2 := tlvL_len 2 (body := intB p.2.2.1)
      have t3 := tlvL_len 2 (body := intB p.2.2.2.1)
      have t4 := tlvL_len 48 (body := allB p.2.2.2.2)
      have i1 := intB_len p.2.1
      have i2 := intB_len p.2.2.1
      have i3 := intB_len p.2.2.2.1
      rw [addNum (by simp) h4, Option.bind_some, List.nil_append, addNum (by omega) ⟨by omega, by omega⟩, Option.bind_some, addNum (by rw [List.length_append]; omega) ⟨by omega, by omega⟩, Option.bind_some, app_small (by simp only [List.length_append]; omega), Option.bind_some]
      have hbody : tlvL 2 (intB p.2.1) ++ tlvL 2 (intB p.2.2.1) ++ tlvL 2 (intB p.2.2.2.1) ++ tlvL 48 (allB p.2.2.2.2) = bodyB p := rfl
      rw [hbody, tlvX _ (by show _ ≤ 1048576; unfold bodyB; simp only [List.length_append]; omega)]
      by_cases hb : (bodyB p).length ≤ 250
      · rw [if_pos ⟨h3, hb⟩, if_pos ⟨by first | rfl | trivial, ha, hb⟩]; rfl
      · rw [if_neg (fun e => hb e.2), if_neg (fun e => hb e.2.2)]; rfl
    · rw [if_neg (fun e => ha e.2), if_neg (fun e => ha e.2.1)]; rfl

set_option linter.unusedVariables false
set_option linter.unusedSimpArgs false
/-! ### requests read -/
theorem Part.cons {b P s : List Int} {i t : Int} {x : List Int} {next : Int} (h : Part b i t x next) (e : b = P ++ s) (hi : i = (P.length : Int)) : ∃ s', b = (P ++ tlvL t x) ++ s' ∧ next = ((P ++ tlvL t x).length : Int) := by
  obtain ⟨pre, rest, e1, e2, e3⟩ := h.ex
  have hl : pre.length = P.length := by omega
  obtain ⟨q1, q2⟩ := List.append_inj (e1.symm.trans e) hl
  subst q1
  exact ⟨rest, by rw [e1, List.append_assoc], by rw [e3, List.length_append]⟩
theorem tlvL_pos (t : Int) (b : List Int) : 1 ≤ (tlvL t b).length := by unfold tlvL; simp
theorem bind_small {x : Bind} (h : xOk x = true) : XLe M x := by
  unfold xOk at h
  rw [Bool.and_eq_true] at h
  obtain ⟨_, _, l3, l4⟩ := pVal_len h.2
  have := oid_len h.1
  have hM : M = 1048576 := rfl
  exact ⟨by omega, by omega, by omega⟩
theorem allB_app (l : List Bind) (x : Bind) : allB (l ++ [x]) = allB l ++ bindB x := by unfold allB; rw [List.flatMap_append]; simp
noncomputable abbrev iLoop (K I A B : Int) (c : List Int) (i : Int) (l : List Bind) := loop (fun z : Int × Int × Int × Int × Int × Int × Int × Int × List Int × Int × Bool × List Bind × List Bind => impl_GetPdu_l0 z.1 z.2.1 z.2.2.1 z.2.2.2.1 z.2.2.2.2.1 z.2.2.2.2.2.1 z.2.2.2.2.2.2.1 z.2.2.2.2.2.2.2.1 z.2.2.2.2.2.2.2.2.1 z.2.2.2.2.2.2.2.2.2.1 z.2.2.2.2.2.2.2.2.2.2.1 z.2.2.2.2.2.2.2.2.2.2.2.1 z.2.2.2.2.2.2.2.2.2.2.2.2) (0, 0, 0, 0, K, I, A, B, c, i, false, [], l)
noncomputable abbrev sLoop (r : L4Reader) (K I A B : Int) (c : List Int) (i : Int) (l : List Bind) := loop (fun z : List Int × Int × Bool × Int × Int × Int × Int × List Int × Int × Bool × List Bind => spec_GetPdu_l0 z.1 z.2.1 z.2.2.1 z.2.2.2.1 z.2.2.2.2.1 z.2.2.2.2.2.1 z.2.2.2.2.2.2.1 z.2.2.2.2.2.2.2.1 z.2.2.2.2.2.2.2.2.1 z.2.2.2.2.2.2.2.2.2.1 z.2.2.2.2.2.2.2.2.2.2) (r.1, r.2.1, r.2.2, K, I, A, B, c, i, false, l)
theorem sync (r : L4Reader) (hr : r.2.2 = false) (K I A B : Int) {c : List Int} (hc : Byt c) (hn : c.length ≤ M) : ∀ (n : Nat) (l : List Bind) (s : List Int), n + l.length = 10 → c = allB l ++ s → (∀ x ∈ l, xOk x = true) →
    (iLoop K I A B c ((allB l).length : Int) l = some (.inr (false, 0, 0, 0, 0, [])) ∧ ∃ d, sLoop r K I A B c ((allB l).length : Int) l = some d ∧ (d.2.2.1 = true ∨ d.2.2.2.2.2.2.2.2.2.2.length = 11) ∧ d.2.1 = r.2.1 ∧ XsLe M d.2.2.2.2.2.2.2.2.2.2) ∨
    (∃ l', c = allB l' ∧ (∀ x ∈ l', xOk x = true) ∧ l'.length ≤ 10 ∧ iLoop K I A B c ((allB l).length : Int) l = some (.inl (0, 0, 0, 0, K, I, A, B, c, (c.length : Int), false, [], l')) ∧ sLoop r K I A B c ((allB l).length : Int) l = some (r.1, r.2.1, false, K, I, A, B, c, (c.length : Int), false, l')) := by
  have hM : M = 1048576 := rfl
  intro n
  induction n with
  | zero =>
    intro l s hl e hx
    have hcl : c.length = (allB l).length + s.length := by rw [e, List.length_append]
    by_cases hlt : ((allB l).length : Int) < (c.length : Int)
    · have h0 : RdOk (c, ((allB l).length : Int), false) := ⟨hc, hn, by show (0 : Int) ≤ ((allB l).length : Int); omega, by show ((allB l).length : Int) ≤ (c.length : Int); omega⟩
      obtain ⟨d, d1, d2, d3, d4, d5, d6, d7, d8, d9⟩ := partY h0 48
      obtain ⟨g, g1, g2, g3⟩ := bindX d5 (by omega)
      have hs : spec_GetPdu_l0 r.1 r.2.1 r.2.2 K I A B c ((allB l).length : Int) false l = some (.inl (r.1, r.2.1, cond d.1.2.2 true (!g.2), K, I, A, B, d.1.1, d.1.2.1, d.1.2.2, l ++ [g.1])) := by
        unfold spec_GetPdu_l0
        rw [hr]
        simp only [Bool.not_false, cond_true, dlt hlt, Option.bind_some, decide_eq_true (show (l.length : Int) ≤ 10 by omega), d1, d2, g2]
        rw [show (cond d.1.2.2 (some true) (some (!g.2))) = some (cond d.1.2.2 true (!g.2)) by cases d.1.2.2 <;> rfl, Option.bind_some, app_small (by show l.length + 1 ≤ _; omega), Option.bind_some]
      have hs2 : ∀ (bd : Bool) (c' : List Int) (i' : Int) (qb : Bool) (l' : List Bind), (bd = true ∨ l'.length = 11) → spec_GetPdu_l0 r.1 r.2.1 bd K I A B c' i' qb l' = some (.inr (r.1, r.2.1, bd, K, I, A, B, c', i', qb, l')) := by
        intro bd c' i' qb l' h
        unfold spec_GetPdu_l0
        rcases h with rfl | h
        · rfl
        · rw [decide_eq_false (show ¬ (l'.length : Int) ≤ 10 by omega)]
          cases bd with
          | true => rfl
          | false => cases h1 : decide (i' < (c'.length : Int)) <;> simp
      left
      refine ⟨loop_end ?_, _, loop_in hs (loop_end (hs2 _ _ _ _ _ (.inr (by rw [List.length_append]; show l.length + 1 = 11; omega)))), .inr (by show (l ++ [g.1]).length = 11; rw [List.length_append]; show l.length + 1 = 11; omega), rfl, ?_⟩
      · show impl_GetPdu_l0 0 0 0 0 K I A B c ((allB l).length : Int) false [] l = _
        unfold impl_GetPdu_l0
        simp only [dlt hlt, cond_true, d1, g1, Option.bind_some, decide_eq_true (show (l.length : Int) ≥ 10 by omega)]
        cases g.2 <;> rfl
      · refine ⟨by show (l ++ [g.1]).length ≤ 1048576; rw [List.length_append]; show l.length + 1 ≤ _; omega, fun x hx' => ?_⟩
        rcases List.mem_append.1 hx' with h | h
        · exact bind_small (hx x h)
        · rw [List.mem_singleton] at h
          subst h
          rcases g3 with rfl | ⟨x, rfl, q, _⟩
          · exact ⟨by show 0 ≤ 1048576; decide, by show 0 ≤ 1048576; decide, by show 0 ≤ 1048576; decide⟩
          · exact bind_small q
    · have hs0 : s = [] := List.length_eq_zero_iff.1 (by omega)
      subst hs0
      rw [List.append_nil] at e
      right
      refine ⟨l, e, hx, by omega, loop_end ?_, loop_end ?_⟩
      · show impl_GetPdu_l0 0 0 0 0 K I A B c ((allB l).length : Int) false [] l = _
        unfold impl_GetPdu_l0
        rw [dnlt hlt, cond_false, e]
      · show spec_GetPdu_l0 r.1 r.2.1 r.2.2 K I A B c ((allB l).length : Int) false l = _
        unfold spec_GetPdu_l0
        rw [hr, dnlt hlt, e]; rfl
  | succ n ih =>
    intro l s hl e hx
    have hcl : c.length = (allB l).length + s.length := by rw [e, List.length_append]
    by_cases hlt : ((allB l).length : Int) < (c.length : Int)
    · have h0 : RdOk (c, ((allB l).length : Int), false) := ⟨hc, hn, by show (0 : Int) ≤ ((allB l).length : Int); omega, by show ((allB l).length : Int) ≤ (c.length : Int); omega⟩
      obtain ⟨d, d1, d2, d3, d4, d5, d6, d7, d8, d9⟩ := partY h0 48
      obtain ⟨g, g1, g2, g3⟩ := bindX d5 (by omega)
      have hs : spec_GetPdu_l0 r.1 r.2.1 r.2.2 K I A B c ((allB l).length : Int) false l = some (.inl (r.1, r.2.1, cond d.1.2.2 true (!g.2), K, I, A, B, d.1.1, d.1.2.1, d.1.2.2, l ++ [g.1])) := by
        unfold spec_GetPdu_l0
        rw [hr]
        simp only [Bool.not_false, cond_true, dlt hlt, Option.bind_some, decide_eq_true (show (l.length : Int) ≤ 10 by omega), d1, d2, g2]
        rw [show (cond d.1.2.2 (some true) (some (!g.2))) = some (cond d.1.2.2 true (!g.2)) by cases d.1.2.2 <;> rfl, Option.bind_some, app_small (by show l.length + 1 ≤ _; omega), Option.bind_some]
      rcases g3 with rfl | ⟨x, rfl, hxo, hxe⟩
      · left
        have hbd : (cond d.1.2.2 true (!false)) = true := by cases d.1.2.2 <;> rfl
        refine ⟨loop_end ?_, _, loop_in hs (loop_end (b := (r.1, r.2.1, true, K, I, A, B, d.1.1, d.1.2.1, d.1.2.2, l ++ [([], 0, 0, [], [])])) ?_), .inl rfl, rfl, ?_⟩
        · show impl_GetPdu_l0 0 0 0 0 K I A B c ((allB l).length : Int) false [] l = _
          unfold impl_GetPdu_l0
          simp only [dlt hlt, cond_true, d1, g1, Option.bind_some]; rfl
        · show spec_GetPdu_l0 r.1 r.2.1 (cond d.1.2.2 true (!false)) K I A B d.1.1 d.1.2.1 d.1.2.2 (l ++ [([], 0, 0, [], [])]) = _
          rw [hbd]; rfl
        · refine ⟨by show (l ++ [_]).length ≤ 1048576; rw [List.length_append]; show l.length + 1 ≤ _; omega, fun y hy => ?_⟩
          rcases List.mem_append.1 hy with h | h
          · exact bind_small (hx y h)
          · rw [List.mem_singleton] at h
            subst h
            exact ⟨by show 0 ≤ 1048576; decide, by show 0 ≤ 1048576; decide, by show 0 ≤ 1048576; decide⟩
      · have hbad : d.1.2.2 = false := by
          cases hb : d.1.2.2 with
          | false => rfl
          | true =>
            rw [d7 hb] at hxe
            have := congrArg List.length hxe
            have h1 := tlvL_pos 6 (oidB x.1)
            rw [List.length_append] at this
            simp at this; omega
        obtain ⟨_, hp⟩ := d9 hbad
        obtain ⟨s', e1, e2⟩ := hp.cons (P := allB l) (s := s) e rfl
        have hb : tlvL 48 d.2 = bindB x := by unfold bindB oneB; rw [← hxe]
        rw [hb, ← allB_app] at e1 e2
        have hdc : d.1.1 = c := d4
        have := ih (l ++ [x]) s' (by rw [List.length_append]; show n + (l.length + 1) = 10; omega) e1 (fun y hy => by
          rcases List.mem_append.1 hy with h | h
          · exact hx y h
          · rw [List.mem_singleton] at h; subst h; exact hxo)
        have hi : impl_GetPdu_l0 0 0 0 0 K I A B c ((allB l).length : Int) false [] l = some (.inl (0, 0, 0, 0, K, I, A, B, c, ((allB (l ++ [x])).length : Int), false, [], l ++ [x])) := by
          unfold impl_GetPdu_l0
          simp only [dlt hlt, cond_true, d1, g1, Option.bind_some, decide_eq_false (show ¬ (l.length : Int) ≥ 10 by omega), Bool.not_true, cond_false]
          rw [app_small (by show l.length + 1 ≤ _; omega), Option.bind_some, hdc, hbad, e2]
        have hs' : spec_GetPdu_l0 r.1 r.2.1 r.2.2 K I A B c ((allB l).length : Int) false l = some (.inl (r.1, r.2.1, r.2.2, K, I, A, B, c, ((allB (l ++ [x])).length : Int), false, l ++ [x])) := by
          rw [hs, hdc, hbad, e2, hr]; rfl
        rcases this with ⟨i1, dd, i2, i3⟩ | ⟨l', q1, q2, q3, i1, i2⟩
        · exact .inl ⟨loop_in hi i1, dd, loop_in hs' i2, i3⟩
        · exact .inr ⟨l', q1, q2, q3, loop_in hi i1, loop_in hs' i2⟩
    · have hs0 : s = [] := List.length_eq_zero_iff.1 (by omega)
      subst hs0
      rw [List.append_nil] at e
      right
      refine ⟨l, e, hx, by omega, loop_end ?_, loop_end ?_⟩
      · show impl_GetPdu_l0 0 0 0 0 K I A B c ((allB l).length : Int) false [] l = _
        unfold impl_GetPdu_l0
        rw [dnlt hlt, cond_false, e]
      · show spec_GetPdu_l0 r.1 r.2.1 r.2.2 K I A B c ((allB l).length : Int) false l = _
        unfold spec_GetPdu_l0
        rw [hr, dnlt hlt, e]; rfl

set_option linter.unusedVariables false
set_option linter.unusedSimpArgs false
theorem nilB (b : List Int) (h : Byt b) : bytesOf b == bytesOf b := by simp
theorem sBad (r : L4Reader) (hr : r.2.2 = true) (K I A B : Int) (c : List Int) : sLoop r K I A B c 0 [] = some (r.1, r.2.1, true, K, I, A, B, c, 0, false, []) := by
  refine loop_end ?_
  show spec_GetPdu_l0 r.1 r.2.1 r.2.2 K I A B c 0 false [] = _
  unfold spec_GetPdu_l0
  rw [hr]; rfl
theorem PLe.of {p : Pdu} (h : ∀ x ∈ p.2.2.2.2, xOk x = true) (h2 : p.2.2.2.2.length ≤ 11) : PLe M p := ⟨by show _ ≤ 1048576; omega, fun x hx => bind_small (h x hx)⟩
theorem getPdu {b : List Int} (hb : Byt b) (hn : b.length ≤ M) : ∃ r, impl_GetPdu b = some r ∧ spec_GetPdu b = some r ∧ (r = ((0, 0, 0, 0, []), false) ∨ ∃ p, r = (p, true) ∧ pPdu p = true ∧ PLe M p) := by
  have hM : M = 1048576 := rfl
  obtain ⟨t, t1, t2, t3⟩ := getTlv hb hn (i := 0) (by omega)
  have htb : t.2.1.length ≤ 250 ∧ Byt t.2.1 := by
    rcases t3 with rfl | ⟨k, body, next, rfl, h⟩
    · exact ⟨by simp, byt_nil⟩
    · exact ⟨h.n, h.b⟩
  have h0 : RdOk (t.2.1, 0, false) := ⟨htb.2, by show t.2.1.length ≤ M; omega, by show (0 : Int) ≤ 0; omega, by show (0 : Int) ≤ (t.2.1.length : Int); omega⟩
  obtain ⟨d1, a1, b1, c1, e1, f1, g1⟩ := numX h0
  obtain ⟨d2, a2, b2, c2, e2, f2, g2⟩ := numX c1
  obtain ⟨d3, a3, b3, c3, e3, f3, g3⟩ := numX c2
  obtain ⟨d4, a4, b4, c4, e4, m4, n4, k4, f4, g4⟩ := partY c3 48
  unfold impl_GetPdu spec_GetPdu
  simp only [t1, t2, a1, b1, a2, b2, a3, b3, a4, b4, Option.bind_some]
  -- spec's loop ends, whatever is read
  have sp : ∃ d, sLoop d4.1 t.1 d1.2 d2.2 d3.2 d4.2 0 [] = some d ∧ d.2.1 = d4.1.2.1 ∧ (d4.1.2.2 = true → d.2.2.1 = true) ∧ XsLe M d.2.2.2.2.2.2.2.2.2.2 := by
    cases hbad : d4.1.2.2 with
    | true => exact ⟨_, sBad d4.1 hbad _ _ _ _ _, rfl, fun _ => rfl, ⟨by show 0 ≤ 1048576; decide, fun x hx => by simp at hx⟩⟩
    | false =>
      rcases sync d4.1 hbad t.1 d1.2 d2.2 d3.2 m4 (by omega) 10 [] d4.2 rfl rfl (by simp) with ⟨_, d, q1, _, q3, q4⟩ | ⟨l', q1, q2, q3, _, q4⟩
      · exact ⟨d, q1, q3, fun e => (by cases e), q4⟩
      · exact ⟨_, q4, rfl, fun e => (by cases e), ⟨by show l'.length ≤ 1048576; omega, fun x hx => bind_small (q2 x hx)⟩⟩
  obtain ⟨d, s1, s2, s3, s4⟩ := sp
  have s1' : loop (fun z : List Int × Int × Bool × Int × Int × Int × Int × List Int × Int × Bool × List Bind => spec_GetPdu_l0 z.1 z.2.1 z.2.2.1 z.2.2.2.1 z.2.2.2.2.1 z.2.2.2.2.2.1 z.2.2.2.2.2.2.1 z.2.2.2.2.2.2.2.1 z.2.2.2.2.2.2.2.2.1 z.2.2.2.2.2.2.2.2.2.1 z.2.2.2.2.2.2.2.2.2.2) (d4.1.1, d4.1.2.1, d4.1.2.2, t.1, d1.2, d2.2, d3.2, d4.2, 0, false, []) = some d := s1
  rw [s1', Option.bind_some]
  have pd : spec_PduOk (d.2.2.2.1, d.2.2.2.2.1, d.2.2.2.2.2.1, d.2.2.2.2.2.2.1, d.2.2.2.2.2.2.2.2.2.2) = some (pPdu (d.2.2.2.1, d.2.2.2.2.1, d.2.2.2.2.2.1, d.2.2.2.2.2.2.1, d.2.2.2.2.2.2.2.2.2.2)) := pduS (p := (d.2.2.2.1, d.2.2.2.2.1, d.2.2.2.2.2.1, d.2.2.2.2.2.2.1, d.2.2.2.2.2.2.2.2.2.2)) s4
  simp only [pd, Option.bind_some]
  cases hok : t.2.2.2 with
  | false => exact ⟨_, rfl, rfl, .inl rfl⟩
  | true =>
  simp only [Bool.not_true, cond_false, Option.bind_some]
  cases hnx : (t.2.2.1 != (b.length : Int)) with
  | true => exact ⟨_, rfl, rfl, .inl rfl⟩
  | false =>
  simp only [cond_false, Option.bind_some]
  unfold impl_parts_done
  cases hbad : d4.1.2.2 with
  | true =>
    rw [s3 hbad]
    exact ⟨_, rfl, rfl, .inl rfl⟩
  | false =>
  simp only [Bool.not_false, cond_true, Option.bind_some]
  have hlen : d4.1.1 = t.2.1 := by rw [e4, e3, e2, e1]
  rw [s2, hlen]
  cases hat : (d4.1.2.1 == (t.2.1.length : Int)) with
  | false =>
    have : (d4.1.2.1 != (t.2.1.length : Int)) = true := by rw [bne, hat]; rfl
    rw [this]
    refine ⟨((0, 0, 0, 0, []), false), rfl, ?_, .inl rfl⟩
    cases d.2.2.1 <;> rfl
  | true =>
  have hat' : (d4.1.2.1 != (t.2.1.length : Int)) = false := by rw [bne, hat]; rfl
  rw [hat']
  simp only [Bool.not_true, cond_false]
  -- the parts
  obtain ⟨x3, p4⟩ := g4 hbad
  obtain ⟨x2, p3, i3⟩ := g3 x3
  obtain ⟨x1, p2, i2⟩ := g2 x2
  obtain ⟨_, p1, i1⟩ := g1 x1
  rcases t3 with rfl | ⟨k, body, next, rfl, hp⟩
  · cases hok
  simp only at p1 hat hnx hlen
  have p1' : Part body 0 2 (intB d1.2) d1.1.2.1 := p1
  have p2' : Part body d1.1.2.1 2 (intB d2.2) d2.1.2.1 := by rw [e1] at p2; exact p2
  have p3' : Part body d2.1.2.1 2 (intB d3.2) d3.1.2.1 := by rw [e2, e1] at p3; exact p3
  have p4' : Part body d3.1.2.1 48 d4.2 d4.1.2.1 := by rw [e3, e2, e1] at p4; exact p4
  obtain ⟨s1x, y1, z1⟩ := p1'.cons (P := []) (s := body) rfl rfl
  obtain ⟨s2x, y2, z2⟩ := p2'.cons y1 z1
  obtain ⟨s3x, y3, z3⟩ := p3'.cons y2 z2
  obtain ⟨s4x, y4, z4⟩ := p4'.cons y3 z3
  have hs4 : s4x = [] := by
    have h1 := congrArg List.length y4
    rw [List.length_append] at h1
    have h2 : d4.1.2.1 = (body.length : Int) := eq_of_beq hat
    exact List.length_eq_zero_iff.1 (by omega)
  subst hs4
  rw [List.append_nil, List.nil_append] at y4
  obtain ⟨u1, u2, u3⟩ : ∃ rest, b = tlvL k body ++ rest ∧ rest = [] := by
    obtain ⟨s', w1, w2⟩ := hp.cons (P := []) (s := b) rfl rfl
    refine ⟨s', by simpa using w1, ?_⟩
    have h1 := congrArg List.length w1
    rw [List.length_append] at h1
    have h2 : next = (b.length : Int) := by simpa using hnx
    exact List.length_eq_zero_iff.1 (by omega)
  subst u3
  rw [List.append_nil] at u2
  rcases sync d4.1 hbad k d1.2 d2.2 d3.2 m4 (by omega) 10 [] d4.2 rfl rfl (by simp) with ⟨j1, dd, j2, j3, _, _⟩ | ⟨l', w1, w2, w3, j1, j2⟩
  · have hdd : dd = d := by
      have : some dd = some d := j2.symm.trans s1
      exact Option.some.inj this
    subst hdd
    have j1' : loop (fun z : Int × Int × Int × Int × Int × Int × Int × Int × List Int × Int × Bool × List Bind × List Bind => impl_GetPdu_l0 z.1 z.2.1 z.2.2.1 z.2.2.2.1 z.2.2.2.2.1 z.2.2.2.2.2.1 z.2.2.2.2.2.2.1 z.2.2.2.2.2.2.2.1 z.2.2.2.2.2.2.2.2.1 z.2.2.2.2.2.2.2.2.2.1 z.2.2.2.2.2.2.2.2.2.2.1 z.2.2.2.2.2.2.2.2.2.2.2.1 z.2.2.2.2.2.2.2.2.2.2.2.2) (0, 0, 0, 0, k, d1.2, d2.2, d3.2, d4.2, 0, false, [], []) = some (.inr (false, 0, 0, 0, 0, [])) := j1
    rw [j1', Option.bind_some, Sum.elim_inr]
    refine ⟨((0, 0, 0, 0, []), false), rfl, ?_, .inl rfl⟩
    cases hd : dd.2.2.1 with
    | true => rfl
    | false =>
      have h11 : dd.2.2.2.2.2.2.2.2.2.2.length = 11 := by
        rcases j3 with h | h
        · rw [hd] at h; cases h
        · exact h
      have hpf : pPdu (dd.2.2.2.1, dd.2.2.2.2.1, dd.2.2.2.2.2.1, dd.2.2.2.2.2.2.1, dd.2.2.2.2.2.2.2.2.2.2) = false := by
        unfold pPdu
        rw [decide_eq_false (show ¬ ((dd.2.2.2.2.2.2.2.2.2.2.length : Nat) : Int) ≤ 10 by omega), Bool.and_false, Bool.false_and]
      rw [hpf]
      simp only [cond_false, Option.bind_some]
      cases (dd.2.2.2.2.2.2.2.2.1 != (dd.2.2.2.2.2.2.2.1.length : Int)) <;> rfl
  · have hdd : d = (d4.1.1, d4.1.2.1, false, k, d1.2, d2.2, d3.2, d4.2, (d4.2.length : Int), false, l') := by
      have : some d = some (d4.1.1, d4.1.2.1, false, k, d1.2, d2.2, d3.2, d4.2, (d4.2.length : Int), false, l') := s1.symm.trans j2
      exact Option.some.inj this
    subst hdd
    have j1' : loop (fun z : Int × Int × Int × Int × Int × Int × Int × Int × List Int × Int × Bool × List Bind × List Bind => impl_GetPdu_l0 z.1 z.2.1 z.2.2.1 z.2.2.2.1 z.2.2.2.2.1 z.2.2.2.2.2.1 z.2.2.2.2.2.2.1 z.2.2.2.2.2.2.2.1 z.2.2.2.2.2.2.2.2.1 z.2.2.2.2.2.2.2.2.2.1 z.2.2.2.2.2.2.2.2.2.2.1 z.2.2.2.2.2.2.2.2.2.2.2.1 z.2.2.2.2.2.2.2.2.2.2.2.2) (0, 0, 0, 0, k, d1.2, d2.2, d3.2, d4.2, 0, false, [], []) = some (.inl (0, 0, 0, 0, k, d1.2, d2.2, d3.2, d4.2, (d4.2.length : Int), false, [], l')) := j1
    rw [j1', Option.bind_some, Sum.elim_inl]
    have hpl : PLe M (k, d1.2, d2.2, d3.2, l') := PLe.of (p := (k, d1.2, d2.2, d3.2, l')) w2 (by show l'.length ≤ 11; omega)
    have hbody : body = bodyB (k, d1.2, d2.2, d3.2, l') := by
      rw [y4, w1]; rfl
    simp only [putPdu hpl, Option.bind_some, bne_self_eq_false, cond_false]
    cases hpp : pPdu (k, d1.2, d2.2, d3.2, l') with
    | false =>
      rw [if_neg (by simp)]
      exact ⟨_, rfl, rfl, .inl rfl⟩
    | true =>
      have hal : (allB l').length ≤ 250 := by rw [← w1]; exact n4
      rw [if_pos ⟨rfl, hal, by rw [← hbody]; exact hp.n⟩, ← hbody, ← u2]
      have hb1 : ((b.length : Int) == 0) = false := beq_eq_false_iff_ne.2 (by
        have := tlvL_pos k body
        rw [← u2] at this; omega)
      rw [hb1, beq_self_eq_true]
      exact ⟨_, rfl, rfl, .inr ⟨_, rfl, hpp, hpl⟩⟩

set_option linter.unusedVariables false
set_option linter.unusedSimpArgs false
theorem getMsg (w : List UInt8) {b : List Int} (hb : Byt b) (hn : b.length ≤ M) : ∃ r, impl_GetMsg w b = some r ∧ spec_GetMsg w b = some r ∧ PLe M r.1 ∧ (r.2 = 0 → pPdu r.1 = true) := by
  have hM : M = 1048576 := rfl
  have nil : PLe M ((0, 0, 0, 0, []) : Pdu) := ⟨by show 0 ≤ 1048576; decide, fun x hx => by simp at hx⟩
  obtain ⟨t, t1, t2, t3⟩ := getTlv hb hn (i := 0) (by omega)
  have htb : t.2.1.length ≤ 250 ∧ Byt t.2.1 := by
    rcases t3 with rfl | ⟨k, body, next, rfl, h⟩
    · exact ⟨by simp, byt_nil⟩
    · exact ⟨h.n, h.b⟩
  have h0 : RdOk (t.2.1, 0, false) := ⟨htb.2, by show t.2.1.length ≤ M; omega, by show (0 : Int) ≤ 0; omega, by show (0 : Int) ≤ (t.2.1.length : Int); omega⟩
  obtain ⟨d1, a1, b1, c1, e1, f1, g1⟩ := numX h0
  obtain ⟨d2, a2, b2, c2, e2, m2, n2, k2, f2, g2⟩ := partY c1 4
  have hlen : d2.1.1 = t.2.1 := by rw [e2, e1]
  have hlo := c2.lo
  have hhi := c2.hi
  rw [hlen] at hhi
  obtain ⟨j, hj⟩ : ∃ j : Nat, d2.1.2.1 = (j : Int) := ⟨d2.1.2.1.toNat, by omega⟩
  have hcut : cut t.2.1 d2.1.2.1 (t.2.1.length : Int) = some (t.2.1.drop j) := by
    rw [hj, cut_ok (by omega) (Nat.le_refl _), List.take_length]
  obtain ⟨g, p1, p2, p3⟩ := getPdu (b := t.2.1.drop j) (fun x hx => htb.2 x (List.mem_of_mem_drop hx)) (by rw [List.length_drop]; omega)
  unfold impl_GetMsg spec_GetMsg
  simp only [t1, t2, a1, b1, a2, b2, Option.bind_some, hcut, p1, p2]
  cases (!t.2.2.2) with
  | true => exact ⟨_, rfl, rfl, nil, fun e => (by cases e)⟩
  | false =>
  simp only [cond_false, Option.bind_some]
  cases (t.1 != 48) with
  | true => exact ⟨_, rfl, rfl, nil, fun e => (by cases e)⟩
  | false =>
  simp only [cond_false, Option.bind_some]
  cases (t.2.2.1 != (b.length : Int)) with
  | true => exact ⟨_, rfl, rfl, nil, fun e => (by cases e)⟩
  | false =>
  simp only [cond_false, Option.bind_some]
  cases d2.1.2.2 with
  | true => exact ⟨_, rfl, rfl, nil, fun e => (by cases e)⟩
  | false =>
  simp only [cond_false, Option.bind_some]
  cases (d1.2 != 1) with
  | true => exact ⟨_, rfl, rfl, nil, fun e => (by cases e)⟩
  | false =>
  simp only [cond_false, Option.bind_some]
  cases (bytesOf d2.2 == w) with
  | false => exact ⟨_, rfl, rfl, nil, fun e => (by cases e)⟩
  | true =>
  simp only [Bool.not_true, cond_false]
  rcases p3 with rfl | ⟨p, rfl, q1, q2⟩
  · exact ⟨_, rfl, rfl, nil, fun e => (by cases e)⟩
  · exact ⟨_, rfl, rfl, q2, fun _ => q1⟩

end Go.V.W
