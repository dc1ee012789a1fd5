/- The law FnExactArrive: part of the proof that for every input it returns true. No condition. -/
import Derived.KernelRfl
import Derived.Test.YtdhcmckfgnommaaGreatArrive
import Derived.Test.YtdhcmckfgnommaaGreatArriveM
namespace Go.V.W
set_option linter.unusedVariables false
set_option linter.unusedSimpArgs false
set_option linter.unusedVariables false
abbrev M : Nat := 1048576
abbrev In (left : Int) : Prop := 0 ≤ left ∧ left ≤ 1048576
theorem In.next {left r : Int} (h : In left) (h1 : 0 ≤ r) (h2 : r ≤ left) : In r := ⟨h1, by have := h.2; omega⟩
theorem le32 {n : Nat} (h : n ≤ M) : n ≤ 4294967295 := Nat.le_trans h (by decide)
/-! ### room -/
theorem szIntS {a : List Int} {left : Int} (hl : In left) (h : a.length ≤ maxLen) : Room left (laws_szIntS a left) (a.length ≤ M) := room_slice hl h
theorem szByteS {a : List Int} {left : Int} (hl : In left) (h : a.length ≤ maxLen) : Room left (laws_szByteS a left) (a.length ≤ M) := room_slice hl h
theorem szPtS {a : List Pt} {left : Int} (hl : In left) (h : a.length ≤ maxLen) : Room left (laws_szPtS a left) (a.length ≤ M) := room_slice hl h
theorem szFentS {a : List Fent} {left : Int} (hl : In left) (h : a.length ≤ maxLen) : Room left (laws_szFentS a left) (a.length ≤ M) := room_slice hl h
theorem szVrowS {a : List Vrow} {left : Int} (hl : In left) (h : a.length ≤ maxLen) : Room left (laws_szVrowS a left) (a.length ≤ M) := room_slice hl h
theorem szVtab {a : Vtab} {left : Int} (hl : In left) (h : a.1.length ≤ maxLen ∧ a.2.length ≤ maxLen) : Room left (laws_szVtab a left) (a.1.length ≤ M ∧ a.2.length ≤ M ∧ True) :=
  room_bind (szVrowS hl h.1) fun r h1 h2 => room_bind (szIntS (hl.next h1 h2) h.2) fun r h1 h2 => room_some h1
/-- The slices of a bridge. -/
def BLe (n : Nat) (b : Bridge) : Prop := b.2.1.length ≤ n ∧ b.2.2.1.length ≤ n ∧ b.2.2.2.1.length ≤ n ∧ b.2.2.2.2.1.length ≤ n ∧ b.2.2.2.2.2.1.length ≤ n
theorem szBridge {b : Bridge} {left : Int} (hl : In left) (h : BLe maxLen b) : Room left (laws_szBridge b left) (BLe M b) := by
  obtain ⟨h1, h2, h3, h4, h5⟩ := h
  refine room_imp (room_let hl h1 fun r k1 k2 => room_bind (szPtS (hl.next k1 k2) h2) fun r' k3 k4 => room_bind (szFentS ((hl.next k1 k2).next k3 k4) h3) fun r'' k5 k6 => room_bind (szVtab (a := (b.2.2.2.2.1, b.2.2.2.2.2.1)) (((hl.next k1 k2).next k3 k4).next k5 k6) ⟨h4, h5⟩) fun r3 k7 k8 => room_some k7) ?_
  rintro ⟨a1, a2, a3, ⟨a4, a5, _⟩, _⟩
  exact ⟨a1, a2, a3, a4, a5⟩
def VLe (n : Nat) (v : Val) : Prop := v.2.2.1.length ≤ n ∧ v.2.2.2.length ≤ n
theorem szVal {v : Val} {left : Int} (hl : In left) (h : VLe maxLen v) : Room left (laws_szVal v left) (VLe M v) :=
  room_imp (room_let hl h.1 fun r k1 k2 => room_bind (szIntS (hl.next k1 k2) h.2) fun r' k3 k4 => room_some k3) fun ⟨a, b, _⟩ => ⟨a, b⟩
def XLe (n : Nat) (x : Bind) : Prop := x.1.length ≤ n ∧ VLe n x.2
theorem szBind {x : Bind} {left : Int} (hl : In left) (h : XLe maxLen x) : Room left (laws_szBind x left) (XLe M x) :=
  room_imp (room_bind (szIntS hl h.1) fun r k1 k2 => room_bind (szVal (hl.next k1 k2) h.2) fun r' k3 k4 => room_some k3) fun ⟨a, b, _⟩ => ⟨a, b⟩
def XsLe (n : Nat) (l : List Bind) : Prop := l.length ≤ n ∧ ∀ x ∈ l, XLe n x
theorem szBindS {l : List Bind} {left : Int} (hl : In left) (h : XsLe maxLen l) : Room left (laws_szBindS l left) (XsLe M l) := by
  have hn : l.length ≤ 9223372036854775807 := h.1
  show Room left (let l1 := w64 (left - (l.length : Int)); cond (decide (l1 < 0)) (some (-1)) ((loop (fun z => laws_szBindS_l0 l z.1 z.2) (l1, 0)).bind (Sum.elim (fun d => some d) (fun r => some r)))) _
  by_cases hle : l.length ≤ M
  · exact room_imp (room_let hl h.1 fun r k1 k2 => room_loop (f := laws_szBind) (Q := XLe M) (fun x hx l' h1 h2 => szBind ⟨h1, h2⟩ (h.2 x hx)) (le32 hle) (hl.next k1 k2)) fun ⟨a, b⟩ => ⟨a, b⟩
  · refine ⟨-1, ?_, .inl rfl⟩
    show cond (decide (w64 (left - (l.length : Int)) < 0)) _ _ = _
    have : M < l.length := by omega
    have hM : (1048576 : Int) < (l.length : Int) := by have : 1048576 < l.length := this; omega
    have := hl.2
    rw [w64_id (by omega) (by omega), dlt (by omega), cond_true]
def PLe (n : Nat) (p : Pdu) : Prop := XsLe n p.2.2.2.2
theorem szPdu {p : Pdu} {left : Int} (hl : In left) (h : PLe maxLen p) : Room left (laws_szPdu p left) (PLe M p) :=
  room_imp (room_bind (szBindS hl h) fun r k1 k2 => room_some k1) fun ⟨a, _⟩ => a
/-- A job's request, and its bridge. -/
def jP (j : Job) : Pdu := (j.2.2.2.1, j.2.2.2.2.1, j.2.2.2.2.2.1, j.2.2.2.2.2.2.1, j.2.2.2.2.2.2.2.1)
def jB (a0 : Job) : Bridge := (a0.2.2.2.2.2.2.2.2.1, a0.2.2.2.2.2.2.2.2.2.1, a0.2.2.2.2.2.2.2.2.2.2.1, a0.2.2.2.2.2.2.2.2.2.2.2.1, a0.2.2.2.2.2.2.2.2.2.2.2.2.1, a0.2.2.2.2.2.2.2.2.2.2.2.2.2.1, a0.2.2.2.2.2.2.2.2.2.2.2.2.2.2.1, a0.2.2.2.2.2.2.2.2.2.2.2.2.2.2.2.1, a0.2.2.2.2.2.2.2.2.2.2.2.2.2.2.2.2.1, a0.2.2.2.2.2.2.2.2.2.2.2.2.2.2.2.2.2.1, a0.2.2.2.2.2.2.2.2.2.2.2.2.2.2.2.2.2.2.1)
def JLe (n : Nat) (j : Job) : Prop := j.2.1.length ≤ n ∧ PLe n (jP j) ∧ BLe n (jB j)
theorem szJob {j : Job} {left : Int} (hl : In left) (h : JLe maxLen j) : Room left (laws_szJob j left) (JLe M j) :=
  room_imp (room_bind (szByteS hl h.1) fun r k1 k2 => room_bind (szPdu (p := jP j) (hl.next k1 k2) h.2.1) fun r' k3 k4 => room_bind (szBridge (b := jB j) ((hl.next k1 k2).next k3 k4) h.2.2) fun r'' k5 k6 => room_some k5) fun ⟨a, b, c, _⟩ => ⟨a, b, c⟩
def JsLe (n : Nat) (l : List Job) : Prop := l.length ≤ n ∧ ∀ x ∈ l, JLe n x
theorem szJobS {l : List Job} {left : Int} (hl : In left) (h : JsLe maxLen l) : Room left (laws_szJobS l left) (JsLe M l) := by
  have hn : l.length ≤ 9223372036854775807 := h.1
  show Room left (let l1 := w64 (left - (l.length : Int)); cond (decide (l1 < 0)) (some (-1)) ((loop (fun z => laws_szJobS_l0 l z.1 z.2) (l1, 0)).bind (Sum.elim (fun d => some d) (fun r => some r)))) _
  by_cases hle : l.length ≤ M
  · exact room_imp (room_let hl h.1 fun r k1 k2 => room_loop (f := laws_szJob) (Q := JLe M) (fun x hx l' h1 h2 => szJob ⟨h1, h2⟩ (h.2 x hx)) (le32 hle) (hl.next k1 k2)) fun ⟨a, b⟩ => ⟨a, b⟩
  · refine ⟨-1, ?_, .inl rfl⟩
    show cond (decide (w64 (left - (l.length : Int)) < 0)) _ _ = _
    have : M < l.length := by omega
    have hM : (1048576 : Int) < (l.length : Int) := by have : 1048576 < l.length := this; omega
    have := hl.2
    rw [w64_id (by omega) (by omega), dlt (by omega), cond_true]
def aB (a0 : Agent) : Bridge := (a0.1, a0.2.1, a0.2.2.1, a0.2.2.2.1, a0.2.2.2.2.1, a0.2.2.2.2.2.1, a0.2.2.2.2.2.2.1, a0.2.2.2.2.2.2.2.1, a0.2.2.2.2.2.2.2.2.1, a0.2.2.2.2.2.2.2.2.2.1, a0.2.2.2.2.2.2.2.2.2.2.1)
def ALe (n : Nat) (a : Agent) : Prop := BLe n (aB a) ∧ a.2.2.2.2.2.2.2.2.2.2.2.1.length ≤ n ∧ JsLe n a.2.2.2.2.2.2.2.2.2.2.2.2.1
theorem szAgent {a : Agent} {left : Int} (hl : In left) (h : ALe maxLen a) : Room left (laws_szAgent a left) (ALe M a) :=
  room_imp (room_bind (szBridge (b := aB a) hl h.1) fun r k1 k2 => room_let (hl.next k1 k2) h.2.1 fun r' k3 k4 => room_bind (szJobS ((hl.next k1 k2).next k3 k4) h.2.2) fun r'' k5 k6 => room_some k5) fun ⟨a, b, c, _⟩ => ⟨a, b, c⟩
/-! ### copies -/
theorem toIntS {a : List Int} (h : a.length ≤ M) : laws_toIntS a = some a := toS_of (le32 h) (to_loop' (le32 h) 0)
theorem toByteS {a : List Int} (h : a.length ≤ M) : laws_toByteS a = some a := toS_of (le32 h) (to_loop' (le32 h) 0)
theorem toPtS {a : List Pt} (h : a.length ≤ M) : laws_toPtS a = some a := toS_of (le32 h) (to_loop (f := laws_toPt) (fun _ _ => rfl) (le32 h) _)
theorem toFentS {a : List Fent} (h : a.length ≤ M) : laws_toFentS a = some a := toS_of (le32 h) (to_loop (f := laws_toFent) (fun _ _ => rfl) (le32 h) _)
theorem toVrowS {a : List Vrow} (h : a.length ≤ M) : laws_toVrowS a = some a := toS_of (le32 h) (to_loop (f := laws_toVrow) (fun _ _ => rfl) (le32 h) _)
theorem toVtab {a : Vtab} (h : a.1.length ≤ M ∧ a.2.length ≤ M) : laws_toVtab a = some a := by
  unfold laws_toVtab
  rw [toVrowS h.1, Option.bind_some, toIntS h.2, Option.bind_some]
theorem toBridge {b : Bridge} (h : BLe M b) : laws_toBridge b = some b := by
  obtain ⟨h1, h2, h3, h4, h5⟩ := h
  unfold laws_toBridge
  rw [toPtS h2, Option.bind_some, toFentS h3, Option.bind_some, toVtab ⟨h4, h5⟩, Option.bind_some]
theorem toVal {v : Val} (h : VLe M v) : laws_toVal v = some v := by
  unfold laws_toVal
  rw [toIntS h.2, Option.bind_some]
theorem toBind {x : Bind} (h : XLe M x) : laws_toBind x = some x := by
  unfold laws_toBind
  rw [toIntS h.1, Option.bind_some, toVal h.2, Option.bind_some]
theorem toBindS {l : List Bind} (h : XsLe M l) : laws_toBindS l = some l := toS_of (le32 h.1) (to_loop (f := laws_toBind) (fun x hx => toBind (h.2 x hx)) (le32 h.1) _)
theorem toPdu {p : Pdu} (h : PLe M p) : laws_toPdu p = some p := by
  unfold laws_toPdu
  rw [toBindS h, Option.bind_some]
theorem toJob {j : Job} (h : JLe M j) : laws_toJob j = some j := by
  unfold laws_toJob
  rw [toByteS h.1, Option.bind_some, show laws_toPdu (j.2.2.2.1, j.2.2.2.2.1, j.2.2.2.2.2.1, j.2.2.2.2.2.2.1, j.2.2.2.2.2.2.2.1) = some (jP j) from toPdu h.2.1, Option.bind_some]
  have := toBridge h.2.2
  unfold jB at this
  rw [this, Option.bind_some]
  rfl
theorem toJobS {l : List Job} (h : JsLe M l) : laws_toJobS l = some l := toS_of (le32 h.1) (to_loop (f := laws_toJob) (fun x hx => toJob (h.2 x hx)) (le32 h.1) _)
theorem toAgent {a : Agent} (h : ALe M a) : laws_toAgent a = some a := by
  unfold laws_toAgent
  have := toBridge h.1
  unfold aB at this
  rw [this, Option.bind_some, toJobS h.2.2, Option.bind_some]
/-! ### the same -/
theorem eqVec (v : Vec) : laws_eqVec v v = some true := by unfold laws_eqVec; simp
theorem eqPt (v : Pt) : laws_eqPt v v = some true := by unfold laws_eqPt; simp [eqVec]
theorem eqFent (v : Fent) : laws_eqFent v v = some true := by unfold laws_eqFent; simp
theorem eqVrow (v : Vrow) : laws_eqVrow v v = some true := by unfold laws_eqVrow; simp
theorem eqIntS {a : List Int} (h : a.length ≤ M) : laws_eqIntS a a = some true := eqS_of (eq_loop' (le32 h))
theorem eqByteS {a : List Int} (h : a.length ≤ M) : laws_eqByteS a a = some true := eqS_of (eq_loop' (le32 h))
theorem eqPtS {a : List Pt} (h : a.length ≤ M) : laws_eqPtS a a = some true := eqS_of (eq_loop (g := laws_eqPt) (fun x _ => eqPt x) (le32 h))
theorem eqFentS {a : List Fent} (h : a.length ≤ M) : laws_eqFentS a a = some true := eqS_of (eq_loop (g := laws_eqFent) (fun x _ => eqFent x) (le32 h))
theorem eqVrowS {a : List Vrow} (h : a.length ≤ M) : laws_eqVrowS a a = some true := eqS_of (eq_loop (g := laws_eqVrow) (fun x _ => eqVrow x) (le32 h))
theorem eqVtab {a : Vtab} (h : a.1.length ≤ M ∧ a.2.length ≤ M) : laws_eqVtab a a = some true := by
  unfold laws_eqVtab; simp [eqVrowS h.1, eqIntS h.2]
theorem eqBridge {b : Bridge} (h : BLe M b) : laws_eqBridge b b = some true := by
  obtain ⟨h1, h2, h3, h4, h5⟩ := h
  unfold laws_eqBridge
  simp [eqPtS h2, eqFentS h3, eqVtab (a := (b.2.2.2.2.1, b.2.2.2.2.2.1)) ⟨h4, h5⟩]
theorem eqVal {v : Val} (h : VLe M v) : laws_eqVal v v = some true := by
  unfold laws_eqVal; simp [eqIntS h.2]
theorem eqBind {x : Bind} (h : XLe M x) : laws_eqBind x x = some true := by
  unfold laws_eqBind; simp [eqIntS h.1, eqVal h.2]
theorem eqBindS {l : List Bind} (h : XsLe M l) : laws_eqBindS l l = some true := eqS_of (eq_loop (g := laws_eqBind) (fun x hx => eqBind (h.2 x hx)) (le32 h.1))
theorem eqPdu {p : Pdu} (h : PLe M p) : laws_eqPdu p p = some true := by
  unfold laws_eqPdu; simp [eqBindS (l := p.2.2.2.2) h]
theorem eqJob {j : Job} (h : JLe M j) : laws_eqJob j j = some true := by
  have h2 := eqPdu h.2.1
  have h3 := eqBridge h.2.2
  unfold jP at h2
  unfold jB at h3
  unfold laws_eqJob
  simp [eqByteS h.1, h2, h3]
theorem eqJobS {l : List Job} (h : JsLe M l) : laws_eqJobS l l = some true := eqS_of (eq_loop (g := laws_eqJob) (fun x hx => eqJob (h.2 x hx)) (le32 h.1))
theorem eqAgent {a : Agent} (h : ALe M a) : laws_eqAgent a a = some true := by
  have h1 := eqBridge h.1
  unfold aB at h1
  unfold laws_eqAgent
  simp [h1, eqJobS h.2.2]

set_option linter.unusedVariables false
set_option linter.unusedSimpArgs false
/-- The same loop. -/
theorem loop_congr {α β : Type} {f g : α → Option (α ⊕ β)} (Inv : α → Prop) (h : ∀ x, Inv x → f x = g x) (hi : ∀ x y, Inv x → f x = some (.inl y) → Inv y) {x : α} (h0 : Inv x) : loop f x = loop g x := by
  have key : ∀ k x, Inv x → iter f k x = iter g k x := by
    intro k
    induction k with
    | zero => intro x _; rfl
    | succ k ih =>
      intro x hx
      rw [iter_succ, iter_succ, ← h x hx]
      cases hf : f x with
      | none => rfl
      | some v => cases v with
        | inl y => exact ih y (hi x y hx hf)
        | inr b => rfl
  have hex : (∃ k, (iter f k x).isSome) ↔ ∃ k, (iter g k x).isSome := by
    constructor <;> rintro ⟨k, hk⟩ <;> exact ⟨k, by first | rwa [← key k x h0] | rwa [key k x h0]⟩
  by_cases hc : ∃ k, (iter f k x).isSome
  · obtain ⟨k, hk⟩ := hc
    cases hv : iter f k x with
    | none => rw [hv] at hk; cases hk
    | some b => rw [loop_of hv, loop_of ((key k x h0) ▸ hv)]
  · have hc' : ¬ ∃ k, (iter g k x).isSome := fun h => hc (hex.2 h)
    unfold loop
    rw [dif_neg hc, dif_neg hc']
theorem loop_ext {α β : Type} {f g : α → Option (α ⊕ β)} (h : ∀ x, f x = g x) (x : α) : loop f x = loop g x := by rw [funext h]
def pIn (x a b : Int) : Bool := decide (x ≥ a) && decide (x ≤ b)
theorem inT (x a b : Int) : impl_in x a b = some (pIn x a b) := by
  unfold impl_in pIn
  cases decide (x ≥ a) <;> rfl
theorem inS (x a b : Int) : spec_l1In x a b = some (pIn x a b) := inT x a b
def pVec (v : Vec) : Bool := pIn v.1 1 99 && (pIn v.2.1 0 100000 && (pIn v.2.2.1 0 10 && (pIn v.2.2.2.1 1 99 && pIn v.2.2.2.2 0 7)))
theorem vecT (v : Vec) : impl_VecOk v = some (pVec v) := by
  unfold impl_VecOk pVec
  simp only [inT, Option.bind_some]
  cases pIn v.1 1 99 <;> cases pIn v.2.1 0 100000 <;> cases pIn v.2.2.1 0 10 <;> cases pIn v.2.2.2.1 1 99 <;> rfl
theorem vecS : spec_VecOk = impl_VecOk := rfl
def pPt (p : Pt) : Bool := pIn p.2.1 1 1000 && (!(p.2.2.1 && !p.1) && (cond p.2.2.1 (pVec p.2.2.2) (p.2.2.2.1 == 0 && (p.2.2.2.2.1 == 0 && (p.2.2.2.2.2.1 == 0 && (p.2.2.2.2.2.2.1 == 0 && (p.2.2.2.2.2.2.2 == 0)))))))
theorem ptT (p : Pt) : impl_PtOk p = some (pPt p) := by
  obtain ⟨up, cost, heard, v⟩ := p
  unfold impl_PtOk pPt
  simp only [inT, vecT, Option.bind_some]
  cases pIn cost 1 1000 <;> cases up <;> cases heard <;> rfl
theorem ptS (p : Pt) : spec_PtOk p = some (pPt p) := by
  obtain ⟨up, cost, heard, v⟩ := p
  unfold spec_PtOk pPt
  simp only [inS, vecS, vecT, Option.bind_some]
  cases pIn cost 1 1000 <;> cases up <;> cases heard <;> rfl
/-! ### a loop that asks of each -/
theorem all_loop {n : Nat} {c : Int → Option Bool} {b : Nat → Bool} (hn : n < 9223372036854775807) (hc : ∀ k, k < n → c (k : Int) = some (b k)) :
    loop (fun i : Int => cond (decide (i < (n : Int))) ((c i).bind fun t => cond t (some (.inr (.inr false))) (some (.inl (w64 (i + 1))))) (some (.inr (.inl ())))) 0 = some (cond ((List.range n).any b) (Sum.inr false) (Sum.inl ()) : Unit ⊕ Bool) := by
  obtain ⟨v, h1, h2⟩ := loop_inv (β := Unit ⊕ Bool) (step := fun i : Int => cond (decide (i < (n : Int))) ((c i).bind fun t => cond t (some (.inr (.inr false))) (some (.inl (w64 (i + 1))))) (some (.inr (.inl ()))))
    (fun k i => i = (k : Int) ∧ (List.range k).any b = false) n (fun v => v = cond ((List.range n).any b) (Sum.inr false) (Sum.inl ()))
    (fun k i hk ⟨e, ha⟩ => by
      subst e
      have hs : (cond (decide ((k : Int) < (n : Int))) ((c (k : Int)).bind fun t => cond t (some (.inr (.inr false))) (some (.inl (w64 ((k : Int) + 1))))) (some (.inr (.inl ()))) : Option (Int ⊕ (Unit ⊕ Bool))) = cond (b k) (some (.inr (.inr false))) (some (.inl ((k + 1 : Nat) : Int))) := by
        rw [dlt (by omega), cond_true, hc k hk, Option.bind_some, w64_nat (by omega)]
      cases hb : b k with
      | true =>
        refine .inr ⟨.inr false, by rw [hs, hb]; rfl, ?_⟩
        have : (List.range n).any b = true := List.any_eq_true.2 ⟨k, List.mem_range.2 hk, hb⟩
        rw [this]; rfl
      | false =>
        refine .inl ⟨_, by rw [hs, hb]; rfl, rfl, ?_⟩
        rw [List.range_succ, List.any_append, ha]; simp [hb])
    (fun i ⟨e, ha⟩ => by
      subst e
      exact ⟨.inl (), by rw [dnlt (by omega), cond_false], by rw [ha]; rfl⟩) (x := 0) ⟨rfl, rfl⟩
  rw [h1, h2]
/-! ### the table of addresses -/
def pFent (e : Fent) : Bool := pIn e.1 1 99 && (pIn e.2.1 1 9999 && (pIn e.2.2.1 0 7 && (pIn e.2.2.2.1 0 4 && (!e.2.2.2.2 || e.2.2.2.1 == 0))))
theorem fentT (e : Fent) : impl_fentOk e = some (pFent e) := by
  unfold impl_fentOk pFent
  simp only [inT, Option.bind_some]
  cases pIn e.1 1 99 <;> cases pIn e.2.1 1 9999 <;> cases pIn e.2.2.1 0 7 <;> cases pIn e.2.2.2.1 0 4 <;> cases e.2.2.2.2 <;> rfl
theorem fentS : spec_l8Ent = impl_fentOk := rfl
def pBehind (e : Fent) (tag mac : Int) : Bool := decide (e.1 > tag) || (e.1 == tag && decide (e.2.1 > mac))
theorem behindT (e : Fent) (tag mac : Int) : impl_behind e tag mac = some (pBehind e tag mac) := by
  unfold impl_behind pBehind
  cases decide (e.1 > tag) <;> cases (e.1 == tag) <;> rfl
theorem aheadS (p e : Fent) : spec_l8Ahead p e.1 e.2.1 = some (pBehind e p.1 p.2.1) := by
  unfold spec_l8Ahead pBehind
  by_cases h : p.1 = e.1
  · simp [h]
  · have h' : ¬ e.1 = p.1 := fun k => h k.symm
    have e1 : (p.1 != e.1) = true := by simpa using h
    have e2 : (e.1 == p.1) = false := by simpa using h'
    rw [e1, e2, cond_true, Bool.false_and, Bool.or_false]
def bFent (l : List Fent) (k : Nat) : Bool := match l[k]? with
  | some e => !(pFent e) || (decide (0 < k) && (match l[k - 1]? with | some p => !(pBehind e p.1 p.2.1) | none => false))
  | none => false
def pFdb (l : List Fent) : Bool := !((List.range l.length).any (bFent l)) && decide ((l.length : Int) ≤ 12)
theorem prev_at {α : Type} {l : List α} {k : Nat} (h : k < l.length) (hk : 0 < k) (hn : l.length < 9223372036854775807) : at? l (w64 ((k : Int) - 1)) = some l[k - 1] := by
  rw [w64_id (by omega) (by omega), show (k : Int) - 1 = ((k - 1 : Nat) : Int) by omega, at_nat (by omega)]
theorem fdbT {l : List Fent} (hn : l.length < 9223372036854775807) : impl_FdbOk l = some (pFdb l) := by
  unfold impl_FdbOk pFdb
  have h := all_loop (n := l.length) (c := fun i => (at? l i).bind fun x10 => (impl_fentOk x10).bind fun t13 => (cond (!t13) (some true) ((cond (decide (i > 0)) ((at? l (w64 (i - 1))).bind fun x23 => (at? l (w64 (i - 1))).bind fun x29 => (impl_behind x10 x23.1 x29.2.1).bind fun t32 => some (!t32)) (some false)).bind fun t34 => some t34)).bind fun t => some t) (b := bFent l) hn (fun k hk => by
    simp only [at_nat hk, Option.bind_some, fentT, bFent, List.getElem?_eq_getElem hk]
    cases pFent l[k] with
    | false => rfl
    | true =>
      by_cases h0 : 0 < k
      · have hd : decide ((k : Int) > 0) = true := decide_eq_true (by omega)
        simp only [hd, prev_at hk h0 hn, Option.bind_some, behindT, decide_eq_true h0, List.getElem?_eq_getElem (show k - 1 < l.length by omega)]
        rfl
      · have hd : decide ((k : Int) > 0) = false := decide_eq_false (by omega)
        simp only [hd, decide_eq_false h0]
        rfl)
  have e : (loop (fun z => impl_FdbOk_l0 l z) 0) = some (cond ((List.range l.length).any (bFent l)) (Sum.inr false) (Sum.inl ())) := by
    rw [← h]
    refine loop_ext (fun i => ?_) 0
    unfold impl_FdbOk_l0
    simp only [Option.bind_assoc, Option.bind_some]
  rw [e, Option.bind_some]
  cases (List.range l.length).any (bFent l) <;> rfl
theorem fdbS {l : List Fent} (hn : l.length < 9223372036854775807) : spec_FdbOk l = some (pFdb l) := by
  unfold spec_FdbOk pFdb
  have h := all_loop (n := l.length) (c := fun i => (at? l i).bind fun x12 => (spec_l8Ent x12).bind fun t14 => (cond (!t14) (some true) ((cond (decide (i > 0)) ((at? l (w64 (i - 1))).bind fun x23 => (at? l i).bind fun x27 => (at? l i).bind fun x32 => (spec_l8Ahead x23 x27.1 x32.2.1).bind fun t35 => some (!t35)) (some false)).bind fun t37 => some t37)).bind fun t => some t) (b := bFent l) hn (fun k hk => by
    simp only [at_nat hk, Option.bind_some, fentS, fentT, bFent, List.getElem?_eq_getElem hk]
    cases pFent l[k] with
    | false => rfl
    | true =>
      by_cases h0 : 0 < k
      · have hd : decide ((k : Int) > 0) = true := decide_eq_true (by omega)
        simp only [hd, prev_at hk h0 hn, Option.bind_some, aheadS, decide_eq_true h0, List.getElem?_eq_getElem (show k - 1 < l.length by omega)]
        rfl
      · have hd : decide ((k : Int) > 0) = false := decide_eq_false (by omega)
        simp only [hd, decide_eq_false h0]
        rfl)
  have e : (loop (fun z => spec_FdbOk_l0 l z) 0) = some (cond ((List.range l.length).any (bFent l)) (Sum.inr false) (Sum.inl ())) := by
    rw [← h]
    refine loop_ext (fun i => ?_) 0
    unfold spec_FdbOk_l0
    simp only [Option.bind_assoc, Option.bind_some]
  rw [e, Option.bind_some]
  cases (List.range l.length).any (bFent l) <;> rfl

set_option linter.unusedVariables false
set_option linter.unusedSimpArgs false
/-! ### networks -/
theorem rowAtS : spec_RowAt = impl_RowAt := rfl
theorem rowAtT {v : Vtab} (hn : v.1.length < 9223372036854775807) (id : Int) : ∃ r, impl_RowAt v id = some r := by
  unfold impl_RowAt
  obtain ⟨b, h1, _⟩ := loop_inv (β := Unit ⊕ Int) (step := fun z => impl_RowAt_l0 v id z) (fun k i => i = (k : Int)) v.1.length (fun _ => True)
    (fun k i hk h => by
      subst h
      unfold impl_RowAt_l0
      rw [dlt (by omega), cond_true, at_nat hk, Option.bind_some]
      cases (v.1[k].1 == id) with
      | true => exact .inr ⟨_, rfl, trivial⟩
      | false => exact .inl ⟨_, rfl, w64_nat (by omega)⟩)
    (fun i h => by
      subst h
      unfold impl_RowAt_l0
      rw [dnlt (by omega)]
      exact ⟨_, rfl, trivial⟩) (x := 0) rfl
  rw [h1, Option.bind_some]
  cases b with
  | inl _ => exact ⟨_, rfl⟩
  | inr r => exact ⟨r, rfl⟩
def pTop (i : Int) : Int := (2 : Int) ^ i.toNat - 1
theorem range6 {i : Int} (h : pIn i 1 6 = true) : i = 1 ∨ i = 2 ∨ i = 3 ∨ i = 4 ∨ i = 5 ∨ i = 6 := by
  unfold pIn at h
  simp only [Bool.and_eq_true, decide_eq_true_eq] at h
  omega
theorem allPortsT {i : Int} (h : pIn i 1 6 = true) : impl_allPorts i = some (pTop i) := by
  rcases range6 h with rfl | rfl | rfl | rfl | rfl | rfl <;> rfl
theorem shlS {i : Int} (h : pIn i 1 6 = true) : ∃ t, shl .i64 1 (IntKind.u64.wrap i) = some t ∧ w64 (t - 1) = pTop i := by
  rcases range6 h with rfl | rfl | rfl | rfl | rfl | rfl <;> exact ⟨_, rfl, rfl⟩
theorem topLe {i : Int} (h : pIn i 1 6 = true) : 1 ≤ pTop i ∧ pTop i ≤ 63 := by
  rcases range6 h with rfl | rfl | rfl | rfl | rfl | rfl <;> decide
/-! #### bits -/
theorem wrap_toNat (x : BitVec 64) : IntKind.i64.wrap (x.toNat : Int) = x.toInt := by
  have hx := x.isLt
  rw [BitVec.toInt_eq_toNat_cond]
  show (let m := (x.toNat : Int) % 18446744073709551616; if (true && decide (m ≥ 9223372036854775808)) = true then m - 18446744073709551616 else m) = _
  simp only [Bool.true_and, decide_eq_true_eq]
  have h1 : (x.toNat : Int) % 18446744073709551616 = (x.toNat : Int) := by omega
  rw [h1]
  split <;> split <;> omega
theorem ofInt_toInt {b : Int} (h1 : -9223372036854775808 ≤ b) (h2 : b ≤ 9223372036854775807) : (BitVec.ofInt 64 b).toInt = b := by
  rw [BitVec.toInt_ofInt]
  unfold Int.bmod
  simp only
  split <;> omega
theorem bandT (a b : Int) : band .i64 a b = (BitVec.ofInt 64 a &&& BitVec.ofInt 64 b).toInt := wrap_toNat _
theorem bclrT (a b : Int) : bclr .i64 a b = (BitVec.ofInt 64 a &&& ~~~ BitVec.ofInt 64 b).toInt := wrap_toNat _
theorem and_iff (x y : BitVec 64) : x &&& y = x ↔ x &&& ~~~ y = 0 := by
  constructor
  · intro h
    apply BitVec.eq_of_getLsbD_eq
    intro i hi
    have := congrArg (fun z => z.getLsbD i) h
    simp only [BitVec.getLsbD_and] at this
    simp only [BitVec.getLsbD_and, BitVec.getLsbD_not, BitVec.getLsbD_zero, hi, decide_true, Bool.true_and]
    cases hx : x.getLsbD i <;> cases hy : y.getLsbD i <;> simp_all
  · intro h
    apply BitVec.eq_of_getLsbD_eq
    intro i hi
    have := congrArg (fun z => z.getLsbD i) h
    simp only [BitVec.getLsbD_and, BitVec.getLsbD_not, BitVec.getLsbD_zero, hi, decide_true, Bool.true_and] at this
    simp only [BitVec.getLsbD_and]
    cases hx : x.getLsbD i <;> cases hy : y.getLsbD i <;> simp_all
/-- What is held back is among what is meant, said in two ways. -/
theorem bits_same {b m : Int} (h1 : -9223372036854775808 ≤ b) (h2 : b ≤ 9223372036854775807) : (band .i64 b m != b) = (bclr .i64 b m != 0) := by
  rw [bandT, bclrT]
  have e : ((BitVec.ofInt 64 b &&& BitVec.ofInt 64 m).toInt = b) ↔ ((BitVec.ofInt 64 b &&& ~~~ BitVec.ofInt 64 m).toInt = 0) := by
    constructor
    · intro h
      have : BitVec.ofInt 64 b &&& BitVec.ofInt 64 m = BitVec.ofInt 64 b := BitVec.eq_of_toInt_eq (by rw [h, ofInt_toInt h1 h2])
      rw [(and_iff _ _).1 this]; rfl
    · intro h
      have : BitVec.ofInt 64 b &&& ~~~ BitVec.ofInt 64 m = 0 := BitVec.eq_of_toInt_eq (by rw [h]; rfl)
      rw [(and_iff _ _).2 this, ofInt_toInt h1 h2]
  by_cases h : (BitVec.ofInt 64 b &&& BitVec.ofInt 64 m).toInt = b
  · have h' := e.1 h
    simp [h, h']
  · have h' : ¬ (BitVec.ofInt 64 b &&& ~~~ BitVec.ofInt 64 m).toInt = 0 := fun k => h (e.2 k)
    rw [bne_iff_ne.2 h, bne_iff_ne.2 h']
theorem bits_in {b m t : Int} (h1 : -9223372036854775808 ≤ b) (h2 : b ≤ 9223372036854775807) (hm : pIn m 0 t = true) (ht : t ≤ 63) (h : (band .i64 b m != b) = false) : pIn b 0 t = true := by
  unfold pIn at hm ⊢
  simp only [Bool.and_eq_true, decide_eq_true_eq] at hm ⊢
  have h : band .i64 b m = b := by simpa using h
  rw [bandT] at h
  have e : BitVec.ofInt 64 b &&& BitVec.ofInt 64 m = BitVec.ofInt 64 b := BitVec.eq_of_toInt_eq (by rw [h, ofInt_toInt h1 h2])
  have hM : (BitVec.ofInt 64 m).toNat = m.toNat := by
    rw [BitVec.toNat_ofInt]
    omega
  have hle : (BitVec.ofInt 64 b).toNat ≤ m.toNat := by
    rw [← e, BitVec.toNat_and, hM]; exact Nat.and_le_right
  have hb : (BitVec.ofInt 64 b).toInt = ((BitVec.ofInt 64 b).toNat : Int) := by
    rw [BitVec.toInt_eq_toNat_cond]; split <;> omega
  rw [ofInt_toInt h1 h2] at hb
  omega
def bRow (v : Vtab) (i : Int) (k : Nat) : Bool := match v.1[k]? with
  | some r => !(pIn r.1 1 99) || ((decide (0 < k) && (match v.1[k - 1]? with | some p => decide (p.1 ≥ r.1) | none => false)) || (!(pIn r.2.1 0 (pTop i)) || (bclr .i64 r.2.2 r.2.1 != 0)))
  | none => false
noncomputable def bPvid (v : Vtab) (k : Nat) : Bool := match v.2[k]? with
  | some x => (match impl_RowAt v x with | some t => decide (t < 0) | none => false)
  | none => false
noncomputable def pVtab (v : Vtab) (i : Int) : Bool := !(!(pIn i 1 6) || ((v.2.length : Int) != i || decide ((v.1.length : Int) > 6))) && (!((List.range v.1.length).any (bRow v i)) && !((List.range v.2.length).any (bPvid v)))
theorem rows_loop {v : Vtab} {i : Int} (hi : pIn i 1 6 = true) (hn : v.1.length < 9223372036854775807) : loop (fun z => impl_VtabOk_l0 v i z) 0 = some (cond ((List.range v.1.length).any (bRow v i)) (Sum.inr false) (Sum.inl ())) := by
  rw [← all_loop (n := v.1.length) (c := fun t28 => (at? v.1 t28).bind fun x31 =>
    (impl_in x31.1 1 99).bind fun t35 =>
    (cond (!t35) (some true) ((cond (decide (t28 > 0)) ((at? v.1 (w64 (t28 - 1))).bind fun x45 => some (decide (x45.1 ≥ x31.1))) (some false)).bind fun t51 => some t51)).bind fun t52 =>
    (cond t52 (some true) ((impl_allPorts i).bind fun t57 => (impl_in x31.2.1 0 t57).bind fun t58 => some (!t58))).bind fun t60 =>
    (cond t60 (some true) (some ((bclr .i64 x31.2.2 x31.2.1) != 0))).bind fun t => some t) (b := bRow v i) hn (fun k hk => by
      simp only [at_nat hk, Option.bind_some, inT, bRow, List.getElem?_eq_getElem hk, allPortsT hi]
      cases pIn v.1[k].1 1 99 with
      | false => rfl
      | true =>
        by_cases h0 : 0 < k
        · have hd : decide ((k : Int) > 0) = true := decide_eq_true (by omega)
          simp only [hd, prev_at hk h0 hn, Option.bind_some, decide_eq_true h0, List.getElem?_eq_getElem (show k - 1 < v.1.length by omega)]
          cases decide (v.1[k - 1].1 ≥ v.1[k].1) <;> cases pIn v.1[k].2.1 0 (pTop i) <;> rfl
        · have hd : decide ((k : Int) > 0) = false := decide_eq_false (by omega)
          simp only [hd, decide_eq_false h0]
          cases pIn v.1[k].2.1 0 (pTop i) <;> rfl)]
  refine loop_ext (fun i => ?_) 0
  unfold impl_VtabOk_l0
  simp only [Option.bind_assoc, Option.bind_some]
theorem rows_loopS {v : Vtab} {i t : Int} (hi : pIn i 1 6 = true) (ht : w64 (t - 1) = pTop i) (hn : v.1.length < 9223372036854775807) (hw : ∀ r ∈ v.1, -9223372036854775808 ≤ r.2.2 ∧ r.2.2 ≤ 9223372036854775807) : loop (fun z => spec_VtabOk_l0 v t z) 0 = some (cond ((List.range v.1.length).any (bRow v i)) (Sum.inr false) (Sum.inl ())) := by
  rw [← all_loop (n := v.1.length) (c := fun t6 => (at? v.1 t6).bind fun x39 =>
    (spec_l1In x39.1 1 99).bind fun t43 =>
    (cond (!t43) (some true) ((spec_l1In x39.2.1 0 (w64 (t - 1))).bind fun t49 => some (!t49))).bind fun t51 =>
    (cond t51 (some true) ((spec_l1In x39.2.2 0 (w64 (t - 1))).bind fun t56 => some (!t56))).bind fun t58 =>
    (cond t58 (some true) (some ((band .i64 x39.2.2 x39.2.1) != x39.2.2))).bind fun t68 =>
    (cond t68 (some true) ((cond (decide (t6 > 0)) ((at? v.1 (w64 (t6 - 1))).bind fun x77 => some (decide (x77.1 ≥ x39.1))) (some false)).bind fun t83 => some t83)).bind fun t => some t) (b := bRow v i) hn (fun k hk => by
      obtain ⟨w1, w2⟩ := hw _ (List.getElem_mem hk)
      have hs := bits_same (m := v.1[k].2.1) w1 w2
      have hin := bits_in (m := v.1[k].2.1) (t := pTop i) w1 w2
      have ht2 := (topLe hi).2
      simp only [at_nat hk, Option.bind_some, inS, bRow, List.getElem?_eq_getElem hk, ht]
      rw [← hs]
      cases h1 : pIn v.1[k].1 1 99 with
      | false => rfl
      | true =>
        cases h2 : pIn v.1[k].2.1 0 (pTop i) with
        | false =>
          by_cases h0 : 0 < k
          · simp only [decide_eq_true h0, List.getElem?_eq_getElem (show k - 1 < v.1.length by omega)]
            cases decide (v.1[k - 1].1 ≥ v.1[k].1) <;> rfl
          · simp only [decide_eq_false h0]; rfl
        | true =>
          cases h3 : (band .i64 v.1[k].2.2 v.1[k].2.1 != v.1[k].2.2) with
          | true =>
            by_cases h0 : 0 < k
            · simp only [decide_eq_true h0, List.getElem?_eq_getElem (show k - 1 < v.1.length by omega)]
              cases decide (v.1[k - 1].1 ≥ v.1[k].1) <;> cases pIn v.1[k].2.2 0 (pTop i) <;> rfl
            · simp only [decide_eq_false h0]; cases pIn v.1[k].2.2 0 (pTop i) <;> rfl
          | false =>
            have h4 := hin h2 ht2 h3
            rw [h4]
            by_cases h0 : 0 < k
            · have hd : decide ((k : Int) > 0) = true := decide_eq_true (by omega)
              simp only [hd, prev_at hk h0 hn, Option.bind_some, decide_eq_true h0, List.getElem?_eq_getElem (show k - 1 < v.1.length by omega)]
              cases decide (v.1[k - 1].1 ≥ v.1[k].1) <;> rfl
            · have hd : decide ((k : Int) > 0) = false := decide_eq_false (by omega)
              simp only [hd, decide_eq_false h0]
              rfl)]
  refine loop_ext (fun i => ?_) 0
  unfold spec_VtabOk_l0
  simp only [Option.bind_assoc, Option.bind_some]
theorem pvid_loop {v : Vtab} (hn : v.1.length < 9223372036854775807) (hn2 : v.2.length < 9223372036854775807) : loop (fun z => impl_VtabOk_l2 v z) 0 = some (cond ((List.range v.2.length).any (bPvid v)) (Sum.inr false) (Sum.inl ())) := by
  rw [← all_loop (n := v.2.length) (c := fun t73 => (at? v.2 t73).bind fun x75 => (impl_RowAt v x75).bind fun t79 => some (decide (t79 < 0))) (b := bPvid v) hn2 (fun k hk => by
    obtain ⟨r, hr⟩ := rowAtT hn v.2[k]
    simp only [at_nat hk, Option.bind_some, bPvid, List.getElem?_eq_getElem hk, hr])]
  refine loop_ext (fun i => ?_) 0
  unfold impl_VtabOk_l2
  simp only [Option.bind_assoc, Option.bind_some]
theorem pvidS : spec_VtabOk_l2 = impl_VtabOk_l2 := rfl
theorem vtabT {v : Vtab} (i : Int) (hn : v.1.length < 9223372036854775807) (hn2 : v.2.length < 9223372036854775807) : impl_VtabOk v i = some (pVtab v i) := by
  unfold impl_VtabOk pVtab
  simp only [inT, Option.bind_some]
  cases hi : pIn i 1 6 with
  | false => rfl
  | true =>
    rw [rows_loop hi hn, pvid_loop hn hn2]
    cases ((v.2.length : Int) != i) <;> cases decide ((v.1.length : Int) > 6) <;> cases (List.range v.1.length).any (bRow v i) <;> cases (List.range v.2.length).any (bPvid v) <;> rfl
theorem vtabS {v : Vtab} (i : Int) (hn : v.1.length < 9223372036854775807) (hn2 : v.2.length < 9223372036854775807) (hw : ∀ r ∈ v.1, -9223372036854775808 ≤ r.2.2 ∧ r.2.2 ≤ 9223372036854775807) : spec_VtabOk v i = some (pVtab v i) := by
  unfold spec_VtabOk pVtab
  simp only [inS, Option.bind_some, pvidS]
  cases hi : pIn i 1 6 with
  | false => rfl
  | true =>
    obtain ⟨t, h1, h2⟩ := shlS hi
    rw [h1, Option.bind_some, rows_loopS hi h2 hn hw, pvid_loop hn hn2]
    cases ((v.2.length : Int) != i) <;> cases decide ((v.1.length : Int) > 6) <;> cases (List.range v.1.length).any (bRow v i) <;> cases (List.range v.2.length).any (bPvid v) <;> rfl
/-! ### a bridge -/
def bPt (l : List Pt) (k : Nat) : Bool := match l[k]? with | some p => !(pPt p) | none => false
def pCounts (b : Bridge) : Bool := pIn b.2.2.2.2.2.2.1 0 1000000 && (pIn b.2.2.2.2.2.2.2.1 0 1000000 && (pIn b.2.2.2.2.2.2.2.2.1 0 1000000 && (pIn b.2.2.2.2.2.2.2.2.2.1 0 1000000 && pIn b.2.2.2.2.2.2.2.2.2.2 0 1000000)))
noncomputable def pBridge (b : Bridge) : Bool := !((List.range b.2.2.1.length).any (bPt b.2.2.1)) && (pIn b.1 1 99 && (!(decide ((b.2.1.length : Int) > 10)) && (pIn (b.2.2.1.length : Int) 1 6 && (pFdb b.2.2.2.1 && (pVtab (b.2.2.2.2.1, b.2.2.2.2.2.1) (b.2.2.1.length : Int) && pCounts b)))))
/-- A bridge whose slices are no longer than slices are, and whose numbers are. -/
structure BWf (b : Bridge) : Prop where
  p : b.2.2.1.length < 9223372036854775807
  f : b.2.2.2.1.length < 9223372036854775807
  v : b.2.2.2.2.1.length < 9223372036854775807
  q : b.2.2.2.2.2.1.length < 9223372036854775807
  r : ∀ r ∈ b.2.2.2.2.1, -9223372036854775808 ≤ r.2.2 ∧ r.2.2 ≤ 9223372036854775807
theorem ports_loop {b : Bridge} (h : BWf b) : loop (fun z => impl_BridgeOk_l0 b z) 0 = some (cond ((List.range b.2.2.1.length).any (bPt b.2.2.1)) (Sum.inr false) (Sum.inl ())) := by
  rw [← all_loop (n := b.2.2.1.length) (c := fun t8 => (at? b.2.2.1 t8).bind fun x10 => (impl_PtOk x10).bind fun t13 => some (!t13)) (b := bPt b.2.2.1) h.p (fun k hk => by
    simp only [at_nat hk, Option.bind_some, bPt, List.getElem?_eq_getElem hk, ptT])]
  refine loop_ext (fun i => ?_) 0
  unfold impl_BridgeOk_l0
  simp only [Option.bind_assoc, Option.bind_some]
theorem ports_loopS {b : Bridge} (h : BWf b) : loop (fun z => spec_BridgeOk_l0 b z) 0 = some (cond ((List.range b.2.2.1.length).any (bPt b.2.2.1)) (Sum.inr false) (Sum.inl ())) := by
  rw [← all_loop (n := b.2.2.1.length) (c := fun t8 => (at? b.2.2.1 t8).bind fun x10 => (spec_PtOk x10).bind fun t13 => some (!t13)) (b := bPt b.2.2.1) h.p (fun k hk => by
    simp only [at_nat hk, Option.bind_some, bPt, List.getElem?_eq_getElem hk, ptS])]
  refine loop_ext (fun i => ?_) 0
  unfold spec_BridgeOk_l0
  simp only [Option.bind_assoc, Option.bind_some]
theorem countsS (b : Bridge) : spec_l11Counts b = some (pCounts b) := by
  unfold spec_l11Counts pCounts
  simp only [inS, Option.bind_some]
  cases pIn b.2.2.2.2.2.2.1 0 1000000 <;> cases pIn b.2.2.2.2.2.2.2.1 0 1000000 <;> cases pIn b.2.2.2.2.2.2.2.2.1 0 1000000 <;> cases pIn b.2.2.2.2.2.2.2.2.2.1 0 1000000 <;> rfl
theorem countT (n : Int) : impl_isCount n = some (pIn n 0 1000000) := by unfold impl_isCount; rw [inT, Option.bind_some]
theorem bridgeT {b : Bridge} (h : BWf b) : impl_BridgeOk b = some (pBridge b) := by
  unfold impl_BridgeOk pBridge pCounts
  rw [ports_loop h, Option.bind_some]
  cases (List.range b.2.2.1.length).any (bPt b.2.2.1) with
  | true => rfl
  | false =>
    simp only [cond_false, Sum.elim_inl, inT, fdbT h.f, vtabT (v := (b.2.2.2.2.1, b.2.2.2.2.2.1)) _ h.v h.q, countT, Option.bind_some]
    cases pIn b.1 1 99 <;> cases decide ((b.2.1.length : Int) > 10) <;> cases pIn (b.2.2.1.length : Int) 1 6 <;> cases pFdb b.2.2.2.1 <;> cases pVtab (b.2.2.2.2.1, b.2.2.2.2.2.1) (b.2.2.1.length : Int) <;>
      cases pIn b.2.2.2.2.2.2.1 0 1000000 <;> cases pIn b.2.2.2.2.2.2.2.1 0 1000000 <;> cases pIn b.2.2.2.2.2.2.2.2.1 0 1000000 <;> cases pIn b.2.2.2.2.2.2.2.2.2.1 0 1000000 <;> rfl
theorem bridgeS {b : Bridge} (h : BWf b) : spec_BridgeOk b = some (pBridge b) := by
  unfold spec_BridgeOk pBridge
  rw [ports_loopS h, Option.bind_some]
  cases (List.range b.2.2.1.length).any (bPt b.2.2.1) with
  | true => rfl
  | false =>
    have e : decide ((b.2.1.length : Int) ≤ 10) = !(decide ((b.2.1.length : Int) > 10)) := by
      by_cases hh : (b.2.1.length : Int) > 10
      · rw [decide_eq_true hh, decide_eq_false (by omega)]; rfl
      · rw [decide_eq_false hh, decide_eq_true (by omega)]; rfl
    simp only [cond_false, Sum.elim_inl, inS, fdbS h.f, vtabS (v := (b.2.2.2.2.1, b.2.2.2.2.2.1)) _ h.v h.q h.r, countsS, Option.bind_some, e]
    cases pIn b.1 1 99 <;> cases decide ((b.2.1.length : Int) > 10) <;> cases pIn (b.2.2.1.length : Int) 1 6 <;> cases pFdb b.2.2.2.1 <;> cases pVtab (b.2.2.2.2.1, b.2.2.2.2.2.1) (b.2.2.1.length : Int) <;> cases pCounts b <;> rfl
theorem bridge_same {b : Bridge} (h : BWf b) : spec_BridgeOk b = impl_BridgeOk b := by rw [bridgeS h, bridgeT h]

set_option linter.unusedVariables false
set_option linter.unusedSimpArgs false
/-- The first five. -/
def mib5 (b : Bridge) : List Bind := [([1, 3, 1, 1, 1], 4, 0, b.2.1, []), ([1, 3, 1, 1, 2], 2, b.2.2.2.2.2.2.1, [], []), ([1, 3, 1, 1, 3], 2, b.2.2.2.2.2.2.2.1, [], []), ([1, 3, 1, 1, 4], 2, b.2.2.2.2.2.2.2.2.1, [], []), ([1, 3, 1, 1, 5], 2, b.2.2.2.2.2.2.2.2.2.1, [], [])]
set_option linter.unusedVariables false
set_option linter.unusedSimpArgs false
theorem app_nat {α : Type} {xs ys : List α} (h : xs.length + ys.length ≤ 1000) : app xs ys = some (xs ++ ys) := by
  unfold app
  rw [if_pos (Nat.le_trans h (by decide))]
set_option linter.unusedVariables false
set_option linter.unusedSimpArgs false
theorem in_nat {n : Nat} {i : Int} (h : pIn i 0 ((n : Int) - 1) = true) : ∃ k : Nat, k < n ∧ i = (k : Int) := by
  unfold pIn at h
  simp only [Bool.and_eq_true, decide_eq_true_eq] at h
  exact ⟨i.toNat, by omega, by omega⟩
theorem nat_in {n k : Nat} (h : k < n) : pIn (k : Int) 0 ((n : Int) - 1) = true := by
  unfold pIn
  rw [decide_eq_true (by omega), decide_eq_true (by omega)]; rfl
theorem band255 (x : Int) : 0 ≤ band .i64 x 255 ∧ band .i64 x 255 ≤ 255 := by
  rw [bandT]
  have h1 : (BitVec.ofInt 64 x &&& BitVec.ofInt 64 255).toNat ≤ 255 := by
    rw [BitVec.toNat_and]
    exact Nat.le_trans Nat.and_le_right (by decide)
  rw [BitVec.toInt_eq_toNat_cond]
  split <;> omega
theorem rem_pos {a n : Int} (ha : 0 ≤ a) (hn : 1 ≤ n) : ∃ r, rem a n = some r ∧ 0 ≤ r ∧ r < n := by
  unfold rem
  rw [if_neg (by omega)]
  refine ⟨_, rfl, Int.tmod_nonneg _ ha, ?_⟩
  have := Int.tmod_lt_of_pos a (show 0 < n by omega)
  exact this
set_option linter.unusedVariables false
set_option linter.unusedSimpArgs false
/-! ### what is drawn: networks -/
abbrev I64 (x : Int) : Prop := -9223372036854775808 ≤ x ∧ x ≤ 9223372036854775807
structure VT (v : Vtab) (n : Nat) : Prop where
  p : pVtab v (n : Int) = true
  r : ∀ r ∈ v.1, I64 r.2.2
theorem VT.len {v : Vtab} {n : Nat} (h : VT v n) : 1 ≤ n ∧ n ≤ 6 ∧ v.2.length = n ∧ v.1.length ≤ 6 := by
  have hp := h.p
  unfold pVtab pIn at hp
  simp only [Bool.and_eq_true, Bool.not_eq_true', Bool.or_eq_false_iff, Bool.not_eq_false', Bool.and_eq_true, decide_eq_true_eq, decide_eq_false_iff_not, bne_eq_false_iff_eq] at hp
  obtain ⟨⟨h1, h2, h3⟩, _⟩ := hp
  omega
theorem vtS {v : Vtab} (n : Int) (h1 : v.1.length ≤ 1000) (h2 : v.2.length ≤ 1000) (hr : ∀ r ∈ v.1, I64 r.2.2) : spec_VtabOk v n = some (pVtab v n) := vtabS n (by omega) (by omega) hr
theorem copyV {v : Vtab} (h1 : v.1.length ≤ 1000) (h2 : v.2.length ≤ 1000) : spec_l9Copy v = some v := by
  unfold spec_l9Copy
  unfold app
  have m : (maxN : Nat) = 4294967296 := rfl
  rw [if_pos (by show 0 + v.1.length ≤ maxN; omega), Option.bind_some, if_pos (by show 0 + v.2.length ≤ maxN; omega), Option.bind_some]
  rfl
theorem okV {v : Vtab} {n : Nat} (hv : VT v n) : spec_VtabOk v (v.2.length : Int) = some true := by
  obtain ⟨l1, l2, l3, l4⟩ := hv.len
  rw [vtS _ (by omega) (by omega) hv.r, l3, hv.p]
theorem rowAtL {v : Vtab} (hn : v.1.length < 9223372036854775807) (id : Int) : ∃ r, spec_RowAt v id = some r ∧ (r = -1 ∨ ∃ k : Nat, k < v.1.length ∧ r = (k : Int)) := by
  rw [rowAtS]
  unfold impl_RowAt
  obtain ⟨b, h1, h2⟩ := loop_inv (β := Unit ⊕ Int) (step := fun z => impl_RowAt_l0 v id z) (fun k i => i = (k : Int)) v.1.length (fun b => ∀ r, b = .inr r → ∃ k : Nat, k < v.1.length ∧ r = (k : Int))
    (fun k i hk h => by
      subst h
      unfold impl_RowAt_l0
      rw [dlt (by omega), cond_true, at_nat hk, Option.bind_some]
      cases (v.1[k].1 == id) with
      | true => exact .inr ⟨_, rfl, fun r hr => ⟨k, hk, by cases hr; rfl⟩⟩
      | false => exact .inl ⟨_, rfl, w64_nat (by omega)⟩)
    (fun i h => by
      subst h
      unfold impl_RowAt_l0
      rw [dnlt (by omega)]
      exact ⟨_, rfl, fun r hr => by cases hr⟩) (x := 0) rfl
  rw [h1, Option.bind_some]
  cases b with
  | inl _ => exact ⟨_, rfl, .inl rfl⟩
  | inr r => exact ⟨r, rfl, .inr (h2 r rfl)⟩
theorem cut_ok {α : Type} {l : List α} {a b : Nat} (h1 : a ≤ b) (h2 : b ≤ l.length) : cut l (a : Int) (b : Int) = some ((l.take b).drop a) := by
  unfold cut
  rw [if_pos (by omega), if_pos (by omega), if_pos (by omega)]; simp
theorem app_small {α : Type} {xs ys : List α} (h : xs.length + ys.length ≤ 4294967296) : app xs ys = some (xs ++ ys) := by
  unfold app
  rw [if_pos (show xs.length + ys.length ≤ maxN from h)]
theorem bandI (a b : Int) : I64 (band .i64 a b) := by
  rw [bandT]
  have h1 := BitVec.toInt_lt (x := BitVec.ofInt 64 a &&& BitVec.ofInt 64 b)
  have h2 := BitVec.le_toInt (x := BitVec.ofInt 64 a &&& BitVec.ofInt 64 b)
  exact ⟨by omega, by omega⟩
set_option linter.unusedVariables false
set_option linter.unusedSimpArgs false
/-! ### drawn addresses -/
def lt (a b : Fent) : Prop := a.1 < b.1 ∨ (a.1 = b.1 ∧ a.2.1 < b.2.1)
def same (a b : Fent) : Prop := a.1 = b.1 ∧ a.2.1 = b.2.1
theorem lt_trans {a b c : Fent} (h : lt a b) (k : lt b c) : lt a c := by unfold lt at *; omega
theorem lt_ne {a b : Fent} (h : lt a b) : ¬ same a b := by unfold lt same at *; omega
structure FB (l : List Fent) : Prop where
  e : ∀ x ∈ l, pFent x = true
  o : l.Pairwise lt
  n : l.length ≤ 12
theorem FB.ok {l : List Fent} (h : FB l) : pFdb l = true := by
  unfold pFdb
  have hn := h.n
  rw [decide_eq_true (show (l.length : Int) ≤ 12 by omega), Bool.and_true, Bool.not_eq_true']
  apply Bool.eq_false_iff.2
  intro ha
  obtain ⟨k, hk, hx⟩ := List.any_eq_true.1 ha
  have hk := List.mem_range.1 hk
  unfold bFent at hx
  simp only [List.getElem?_eq_getElem hk, h.e _ (List.getElem_mem hk), Bool.not_true, Bool.false_or, Bool.and_eq_true, decide_eq_true_eq] at hx
  obtain ⟨h0, hx⟩ := hx
  simp only [List.getElem?_eq_getElem (show k - 1 < l.length by omega), Bool.not_eq_true'] at hx
  have hl := List.pairwise_iff_getElem.1 h.o (k - 1) k (by omega) hk (by omega)
  unfold pBehind at hx
  simp only [Bool.or_eq_false_iff, Bool.and_eq_false_iff, decide_eq_false_iff_not, beq_eq_false_iff_ne] at hx
  unfold lt at hl
  omega
theorem okF {l : List Fent} (h : FB l) : spec_FdbOk l = some true := by
  have hn := h.n
  rw [fdbS (by omega), h.ok]
theorem FB.copy {l : List Fent} (h : FB l) : spec_l8Copy l = some l := by
  have hn := h.n
  unfold spec_l8Copy
  rw [app_small (by show 0 + l.length ≤ _; omega)]; rfl
def aheadB (x e : Fent) : Bool := cond (x.1 != e.1) (decide (x.1 < e.1)) (decide (x.2.1 < e.2.1))
theorem ahead_lt {x e : Fent} (h : aheadB x e = true) : lt x e := by
  unfold aheadB at h
  unfold lt
  by_cases hx : x.1 = e.1
  · rw [show (x.1 != e.1) = false by simp [hx], cond_false] at h
    exact .inr ⟨hx, of_decide_eq_true h⟩
  · rw [show (x.1 != e.1) = true from bne_iff_ne.2 hx, cond_true] at h
    exact .inl (of_decide_eq_true h)
theorem not_ahead {x e : Fent} (h : aheadB x e = false) : lt e x ∨ same x e := by
  unfold aheadB at h
  unfold lt same
  by_cases hx : x.1 = e.1
  · rw [show (x.1 != e.1) = false by simp [hx], cond_false] at h
    have := of_decide_eq_false h
    omega
  · rw [show (x.1 != e.1) = true from bne_iff_ne.2 hx, cond_true] at h
    have := of_decide_eq_false h
    omega
def otherB (x e : Fent) : Bool := x.1 != e.1 || x.2.1 != e.2.1
theorem other_true {x e : Fent} (h : otherB x e = true) : ¬ same x e := by
  unfold otherB at h; unfold same
  simp only [Bool.or_eq_true, bne_iff_ne] at h
  omega
theorem other_false {x e : Fent} (h : otherB x e = false) : same x e := by
  unfold otherB at h; unfold same
  simp only [Bool.or_eq_false_iff, bne_eq_false_iff_eq] at h
  exact h
theorem pair_snoc {l : List Fent} {x : Fent} (h : l.Pairwise lt) (k : ∀ y ∈ l, lt y x) : (l ++ [x]).Pairwise lt := by
  rw [List.pairwise_append]
  exact ⟨h, List.pairwise_singleton _ _, fun a ha b hb => by simp at hb; subst hb; exact k a ha⟩
theorem entF (e : Fent) : spec_l8Ent e = some (pFent e) := by rw [fentS]; exact fentT e
set_option linter.unusedVariables false
set_option linter.unusedSimpArgs false
def num (name : List Int) (n : Int) : Bind := ([1, 3, 1] ++ name, 2, n, [], [])
def rowVal (r : Vrow) (c : Nat) : Int := match c with | 0 => 1 | 1 => r.2.1 | _ => r.2.2
def rowG (b : Bridge) (c : Nat) : List Bind := b.2.2.2.2.1.map fun r => num [3, ((c + 1 : Nat) : Int), r.1] (rowVal r c)
def fdbG (b : Bridge) : List Bind := b.2.2.2.1.map fun e => num [4, 1, e.1, e.2.1] (w64 (e.2.2.1 + 1))
/-- What a right bridge's parts are. -/
structure BOk (b : Bridge) : Prop where
  w : BWf b
  ok : pBridge b = true
  p : ∀ x ∈ b.2.2.1, pPt x = true
  id : pIn b.1 1 99 = true
  name : b.2.1.length ≤ 10
  n1 : 1 ≤ b.2.2.1.length
  n6 : b.2.2.1.length ≤ 6
  f : pFdb b.2.2.2.1 = true
  v : pVtab (b.2.2.2.2.1, b.2.2.2.2.2.1) (b.2.2.1.length : Int) = true
  c : pCounts b = true
theorem bok {b : Bridge} (h : BWf b) (hb : pBridge b = true) : BOk b := by
  have hb' := hb
  unfold pBridge at hb
  simp only [Bool.and_eq_true, Bool.not_eq_true', decide_eq_false_iff_not] at hb
  obtain ⟨h1, h2, h3, h4, h5, h6, h7⟩ := hb
  refine ⟨h, hb', fun x hx => ?_, h2, by omega, ?_, ?_, h5, h6, h7⟩
  · obtain ⟨k, hk, rfl⟩ := List.getElem_of_mem hx
    cases hp : pPt b.2.2.1[k] with
    | true => rfl
    | false =>
      have := List.any_eq_false.1 h1 k (List.mem_range.2 hk)
      unfold bPt at this
      simp only [List.getElem?_eq_getElem hk, hp] at this
      exact absurd rfl this
  · unfold pIn at h4
    simp only [Bool.and_eq_true, decide_eq_true_eq] at h4; omega
  · unfold pIn at h4
    simp only [Bool.and_eq_true, decide_eq_true_eq] at h4; omega
theorem BOk.vt {b : Bridge} (h : BOk b) : VT (b.2.2.2.2.1, b.2.2.2.2.2.1) b.2.2.1.length := ⟨h.v, h.w.r⟩
theorem BOk.f12 {b : Bridge} (h : BOk b) : b.2.2.2.1.length ≤ 12 := by
  have hf := h.f
  unfold pFdb at hf
  simp only [Bool.and_eq_true, decide_eq_true_eq] at hf
  omega
set_option linter.unusedVariables false
set_option linter.unusedSimpArgs false
/-! ### names rise -/
theorem adj_pair {α : Type} {R : α → α → Prop} (tr : ∀ a b c, R a b → R b c → R a c) {l : List α} (h : ∀ k (hk : k + 1 < l.length), R l[k] l[k + 1]) : l.Pairwise R := by
  rw [List.pairwise_iff_getElem]
  intro i j hi hj hij
  induction j with
  | zero => omega
  | succ j ih =>
    by_cases e : i = j
    · subst e; exact h i hj
    · exact tr _ _ _ (ih (by omega) (by omega)) (h j hj)
def Head (g c : Int) (x : Bind) : Prop := ∃ t, x.1 = 1 :: 3 :: 1 :: g :: c :: t
theorem head_lt {g c g' c' : Int} {x y : Bind} (hx : Head g c x) (hy : Head g' c' y) (h : g < g' ∨ (g = g' ∧ c < c')) : x.1 < y.1 := by
  obtain ⟨t, ht⟩ := hx
  obtain ⟨s, hs⟩ := hy
  rw [ht, hs]
  simp only [List.cons_lt_cons_iff, Int.lt_irrefl, false_or, true_and]
  rcases h with h | ⟨h, k⟩
  · exact .inl h
  · exact .inr ⟨h, .inl k⟩
theorem rowG_head {b : Bridge} {c : Nat} {x : Bind} (h : x ∈ rowG b c) : Head 3 ((c + 1 : Nat) : Int) x := by
  unfold rowG at h
  obtain ⟨k, _, rfl⟩ := List.mem_map.1 h
  exact ⟨_, rfl⟩
theorem fdbG_head {b : Bridge} {x : Bind} (h : x ∈ fdbG b) : Head 4 1 x := by
  unfold fdbG at h
  obtain ⟨k, _, rfl⟩ := List.mem_map.1 h
  exact ⟨_, rfl⟩
theorem mib5_head {b : Bridge} {x : Bind} (h : x ∈ mib5 b) : ∃ c, Head 1 c x := by
  unfold mib5 at h
  simp only [List.mem_cons, List.not_mem_nil, or_false] at h
  rcases h with rfl | rfl | rfl | rfl | rfl <;> exact ⟨_, _, rfl⟩
theorem rows_rise {b : Bridge} (h : BOk b) : b.2.2.2.2.1.Pairwise fun r s => r.1 < s.1 := by
  refine adj_pair (R := fun (r s : Vrow) => r.1 < s.1) (fun _ _ _ h k => Int.lt_trans h k) fun k hk => ?_
  have hv := h.v
  unfold pVtab at hv
  simp only [Bool.and_eq_true, Bool.not_eq_true'] at hv
  have hx := List.any_eq_false.1 hv.2.1 (k + 1) (List.mem_range.2 hk)
  unfold bRow at hx
  simp only [List.getElem?_eq_getElem hk, Nat.add_sub_cancel, List.getElem?_eq_getElem (show k < b.2.2.2.2.1.length by omega), Bool.or_eq_true, Bool.and_eq_true, decide_eq_true_eq, not_or, not_and] at hx
  have := hx.2.1 (by omega)
  omega
theorem rows_pair {b : Bridge} (h : BOk b) (c : Nat) : (rowG b c).Pairwise fun x y => x.1 < y.1 := by
  unfold rowG
  rw [List.pairwise_map]
  refine List.Pairwise.imp ?_ (rows_rise h)
  intro r s h
  show (1 :: 3 :: 1 :: 3 :: ((c + 1 : Nat) : Int) :: r.1 :: []) < (1 :: 3 :: 1 :: 3 :: ((c + 1 : Nat) : Int) :: s.1 :: [])
  simp only [List.cons_lt_cons_iff, Int.lt_irrefl, false_or, true_and]
  exact .inl h
theorem fdb_rise {b : Bridge} (h : BOk b) : b.2.2.2.1.Pairwise lt := by
  refine adj_pair (R := lt) (fun _ _ _ => lt_trans) fun k hk => ?_
  have hv := h.f
  unfold pFdb at hv
  simp only [Bool.and_eq_true, Bool.not_eq_true'] at hv
  have hx := List.any_eq_false.1 hv.1 (k + 1) (List.mem_range.2 hk)
  unfold bFent at hx
  simp only [List.getElem?_eq_getElem hk, Nat.add_sub_cancel, List.getElem?_eq_getElem (show k < b.2.2.2.1.length by omega), Bool.or_eq_true, Bool.and_eq_true, decide_eq_true_eq, not_or, not_and, Bool.not_eq_true', Bool.not_eq_false] at hx
  have hp := hx.2 (by omega)
  unfold pBehind at hp
  simp only [Bool.or_eq_true, Bool.and_eq_true, decide_eq_true_eq, beq_iff_eq] at hp
  unfold lt
  omega
theorem fdb_pair {b : Bridge} (h : BOk b) : (fdbG b).Pairwise fun x y => x.1 < y.1 := by
  unfold fdbG
  rw [List.pairwise_map]
  refine List.Pairwise.imp ?_ (fdb_rise h)
  intro r s h
  show (1 :: 3 :: 1 :: 4 :: 1 :: r.1 :: r.2.1 :: []) < (1 :: 3 :: 1 :: 4 :: 1 :: s.1 :: s.2.1 :: [])
  unfold lt at h
  simp only [List.cons_lt_cons_iff, Int.lt_irrefl, false_or, true_and]
  rcases h with h | ⟨h, k⟩
  · exact .inl h
  · exact .inr ⟨h, .inl k⟩
theorem mib5_pair (b : Bridge) : (mib5 b).Pairwise fun x y => x.1 < y.1 := by
  unfold mib5
  simp only [List.pairwise_cons, List.mem_cons, List.not_mem_nil, or_false, forall_eq_or_imp, forall_eq, List.Pairwise.nil, and_true, false_imp_iff, implies_true, List.cons_lt_cons_iff, Int.lt_irrefl, false_or, true_and]
  refine ⟨⟨.inl (by decide), .inl (by decide), .inl (by decide), .inl (by decide)⟩, ⟨.inl (by decide), .inl (by decide), .inl (by decide)⟩, ⟨.inl (by decide), .inl (by decide)⟩, .inl (by decide)⟩
theorem flat4 {α : Type} (f : Nat → List α) : (List.range 4).flatMap f = f 0 ++ (f 1 ++ (f 2 ++ (f 3 ++ []))) := rfl
theorem flat3 {α : Type} (f : Nat → List α) : (List.range 3).flatMap f = f 0 ++ (f 1 ++ (f 2 ++ [])) := rfl
theorem group_pair {n : Nat} {f : Nat → List Bind} {g : Int} (hp : ∀ c, (f c).Pairwise fun x y => x.1 < y.1) (hh : ∀ c x, x ∈ f c → Head g ((c + 1 : Nat) : Int) x) : ((List.range n).flatMap f).Pairwise fun x y => x.1 < y.1 := by
  induction n with
  | zero => exact List.Pairwise.nil
  | succ n ih =>
    rw [List.range_succ, List.flatMap_append, List.pairwise_append]
    refine ⟨ih, by simp; exact hp n, fun x hx y hy => ?_⟩
    obtain ⟨c, hc, hx⟩ := List.mem_flatMap.1 hx
    have hc := List.mem_range.1 hc
    simp at hy
    exact head_lt (hh c x hx) (hh n y hy) (.inr ⟨rfl, by omega⟩)
/-! ### one name ahead of another -/
theorem lex_at (p s t : List Int) {x y : Int} (h : x ≠ y) : (p ++ x :: s < p ++ y :: t) ↔ x < y := by
  induction p with
  | nil =>
    simp only [List.nil_append, List.cons_lt_cons_iff]
    exact ⟨fun k => k.elim id fun k => absurd k.1 h, .inl⟩
  | cons a p ih => simp only [List.cons_append, List.cons_lt_cons_iff, ih, Int.lt_irrefl, false_or, true_and]
theorem lex_pre (p : List Int) {s : List Int} (h : s ≠ []) : p < p ++ s := by
  induction p with
  | nil => cases s with
    | nil => exact absurd rfl h
    | cons a s => exact List.nil_lt_cons a s
  | cons a p ih => simp only [List.cons_append, List.cons_lt_cons_iff, Int.lt_irrefl, false_or, true_and]; exact ih
theorem lex_suf (p s : List Int) : ¬ p ++ s < p := by
  induction p with
  | nil => exact List.not_lt_nil s
  | cons a p ih => simp only [List.cons_append, List.cons_lt_cons_iff, Int.lt_irrefl, false_or, true_and]; exact ih
set_option linter.unusedVariables false
set_option linter.unusedSimpArgs false
/-! ### each is right -/
theorem sameO {a b : List Int} (h : b.length < 9223372036854775807) : impl_SameOid a b = some (a == b) := by
  unfold impl_SameOid
  by_cases hl : a.length = b.length
  · have e : ((a.length : Int) != (b.length : Int)) = false := by rw [hl]; simp
    rw [e, cond_false]
    obtain ⟨v, h1, rfl⟩ := loop_inv (step := fun z => impl_SameOid_l0 a b z) (fun k i => i = (k : Int) ∧ a.take k = b.take k) a.length (fun v => v = cond (a == b) (.inl ()) (.inr false))
      (fun k i hk ⟨e, ht⟩ => by
        subst e
        have hb : k < b.length := by omega
        have hs : impl_SameOid_l0 a b (k : Int) = cond (a[k] != b[k]) (some (.inr (.inr false))) (some (.inl ((k + 1 : Nat) : Int))) := by
          unfold impl_SameOid_l0
          rw [dlt (by omega), cond_true, at_nat hk, Option.bind_some, at_nat hb, Option.bind_some, w64_nat (by omega)]
        by_cases hne : a[k] = b[k]
        · refine .inl ⟨_, by rw [hs, show (a[k] != b[k]) = false by simp [hne]]; rfl, rfl, ?_⟩
          rw [List.take_add_one, List.take_add_one, List.getElem?_eq_getElem hk, List.getElem?_eq_getElem hb, ht, hne]
        · refine .inr ⟨_, by rw [hs, show (a[k] != b[k]) = true from bne_iff_ne.2 hne]; rfl, ?_⟩
          have : (a == b) = false := by
            apply beq_eq_false_iff_ne.2
            intro hab
            subst hab
            exact hne rfl
          rw [this]; rfl)
      (fun i ⟨e, ht⟩ => by
        subst e
        have hab : a = b := by
          rw [List.take_length, List.take_of_length_le (by omega)] at ht; exact ht
        exact ⟨.inl (), by show impl_SameOid_l0 a b _ = _; unfold impl_SameOid_l0; rw [dnlt (by omega), cond_false], by rw [show (a == b) = true from beq_iff_eq.2 hab]; rfl⟩) (x := 0) ⟨rfl, by simp⟩
    rw [h1, Option.bind_some]
    cases (a == b) <;> rfl
  · have e : ((a.length : Int) != (b.length : Int)) = true := by simp; omega
    have hne : (a == b) = false := beq_eq_false_iff_ne.2 fun h => hl (by rw [h])
    rw [e, cond_true, hne]
theorem sameV1 {v : Val} (h : v.2.2.2.length < 9223372036854775807) : impl_SameVal v v = some true := by
  unfold impl_SameVal
  rw [sameO h]
  simp
/-- A name's bounds. -/
structure Nm (o : List Int) : Prop where
  n1 : 1 ≤ o.length
  n10 : o.length ≤ 10
  e : ∀ x ∈ o, pIn x 0 100000 = true
theorem Nm.ok {o : List Int} (h : Nm o) : impl_OidOk o = some true := by
  have h10 := h.n10
  have h1 := h.n1
  unfold impl_OidOk
  obtain ⟨v, e, rfl⟩ := loop_inv (step := fun z => impl_OidOk_l0 o z) (fun k i => i = (k : Int)) o.length (fun v => v = .inl ())
    (fun k i hk e => by
      subst e
      refine .inl ⟨((k + 1 : Nat) : Int), ?_, rfl⟩
      show impl_OidOk_l0 o (k : Int) = _
      unfold impl_OidOk_l0
      rw [dlt (by omega), cond_true, at_nat hk, Option.bind_some, inT, Option.bind_some, h.e _ (List.getElem_mem hk), w64_nat (by omega)]; rfl)
    (fun i e => by
      subst e
      exact ⟨.inl (), by show impl_OidOk_l0 o _ = _; unfold impl_OidOk_l0; rw [dnlt (by omega), cond_false], rfl⟩) (x := 0) rfl
  rw [e, Option.bind_some]
  show ((impl_in (o.length : Int) 1 10).bind fun t => some t) = _
  rw [inT, Option.bind_some]
  unfold pIn
  rw [decide_eq_true (by omega), decide_eq_true (by omega)]; rfl
/-- A thing's value: a small number, or a short word. -/
inductive Vl : Val → Prop
  | num {n : Int} (h : pIn n (-2147483648) 2147483647 = true) : Vl (2, n, [], [])
  | word {s : List UInt8} (h : s.length ≤ 20) : Vl (4, 0, s, [])
theorem Vl.ok {v : Val} (h : Vl v) : impl_ValOk v = some true := by
  cases h with
  | num h =>
    unfold impl_ValOk impl_isInt impl_SameVal
    simp only [inT, h, Option.bind_some, sameO (show ([] : List Int).length < 9223372036854775807 by decide)]
    simp
  | word h =>
    rename_i s
    have hd : decide ((s.length : Int) ≤ 20) = true := decide_eq_true (by omega)
    unfold impl_ValOk impl_SameVal
    simp only [hd, Option.bind_some, sameO (show ([] : List Int).length < 9223372036854775807 by decide)]
    simp
theorem Vl.k {v : Val} (h : Vl v) : (v.1 == 128) = false := by cases h <;> rfl
theorem Vl.o {v : Val} (h : Vl v) : v.2.2.2 = [] := by cases h <;> rfl
theorem in32 {n : Int} (h1 : 0 ≤ n) (h2 : n ≤ 2147483647) : pIn n (-2147483648) 2147483647 = true := by unfold pIn; rw [decide_eq_true (by omega), decide_eq_true (by omega)]; rfl
theorem inP {n a c : Int} (h1 : a ≤ n) (h2 : n ≤ c) : pIn n a c = true := by unfold pIn; rw [decide_eq_true (by omega), decide_eq_true (by omega)]; rfl
theorem inE {n a c : Int} (h : pIn n a c = true) : a ≤ n ∧ n ≤ c := by
  unfold pIn at h
  simp only [Bool.and_eq_true, decide_eq_true_eq] at h
  exact h
theorem rowAtE {v : Vtab} (hn : v.1.length < 9223372036854775807) {id r : Int} (h : impl_RowAt v id = some r) (h0 : ¬ r < 0) : ∃ x ∈ v.1, x.1 = id := by
  unfold impl_RowAt at h
  obtain ⟨b, h1, h2⟩ := loop_inv (β := Unit ⊕ Int) (step := fun z => impl_RowAt_l0 v id z) (fun k i => i = (k : Int)) v.1.length (fun b => ∀ r, b = .inr r → ∃ x ∈ v.1, x.1 = id)
    (fun k i hk h => by
      subst h
      unfold impl_RowAt_l0
      rw [dlt (by omega), cond_true, at_nat hk, Option.bind_some]
      cases hb : (v.1[k].1 == id) with
      | true => exact .inr ⟨_, rfl, fun r hr => ⟨_, List.getElem_mem hk, eq_of_beq hb⟩⟩
      | false => exact .inl ⟨_, rfl, w64_nat (by omega)⟩)
    (fun i h => by
      subst h
      unfold impl_RowAt_l0
      rw [dnlt (by omega)]
      exact ⟨_, rfl, fun r hr => by cases hr⟩) (x := 0) rfl
  rw [h1, Option.bind_some] at h
  cases b with
  | inl _ => cases h; exact absurd (by decide) h0
  | inr r' => exact h2 r' rfl
theorem rows_in {b : Bridge} (h : BOk b) {r : Vrow} (hr : r ∈ b.2.2.2.2.1) : (1 ≤ r.1 ∧ r.1 ≤ 99) ∧ (0 ≤ r.2.1 ∧ r.2.1 ≤ 63) ∧ (0 ≤ r.2.2 ∧ r.2.2 ≤ 63) := by
  obtain ⟨k, hk, rfl⟩ := List.getElem_of_mem hr
  have hv := h.v
  unfold pVtab at hv
  simp only [Bool.and_eq_true, Bool.not_eq_true', Bool.or_eq_false_iff, Bool.not_eq_false'] at hv
  have hx := List.any_eq_false.1 hv.2.1 k (List.mem_range.2 hk)
  unfold bRow at hx
  simp only [List.getElem?_eq_getElem hk, Bool.or_eq_true, Bool.not_eq_true', not_or, Bool.not_eq_false] at hx
  obtain ⟨x1, _, x3, x4⟩ := hx
  have ht := topLe (i := (b.2.2.1.length : Int)) hv.1.1
  have y1 := inE x1
  have y3 := inE x3
  have x4 : (bclr .i64 b.2.2.2.2.1[k].2.2 b.2.2.2.2.1[k].2.1 != 0) = false := by simpa using x4
  refine ⟨y1, by omega, ?_⟩
  have hI := h.w.r _ (List.getElem_mem hk)
  have hband := inE (bits_in hI.1 hI.2 x3 ht.2 (by rw [bits_same hI.1 hI.2]; exact x4))
  omega
theorem pvid_in {b : Bridge} (h : BOk b) {x : Int} (hx : x ∈ b.2.2.2.2.2.1) : 1 ≤ x ∧ x ≤ 99 := by
  obtain ⟨k, hk, rfl⟩ := List.getElem_of_mem hx
  have hv := h.v
  have hn : b.2.2.2.2.1.length < 9223372036854775807 := h.w.v
  unfold pVtab at hv
  simp only [Bool.and_eq_true, Bool.not_eq_true'] at hv
  have hq := List.any_eq_false.1 hv.2.2 k (List.mem_range.2 hk)
  unfold bPvid at hq
  simp only [List.getElem?_eq_getElem hk] at hq
  obtain ⟨r, hr⟩ := rowAtT (v := (b.2.2.2.2.1, b.2.2.2.2.2.1)) hn b.2.2.2.2.2.1[k]
  rw [hr] at hq
  simp only [decide_eq_true_eq] at hq
  obtain ⟨y, hy, e⟩ := rowAtE (v := (b.2.2.2.2.1, b.2.2.2.2.2.1)) hn hr hq
  have := (rows_in h (r := y) hy).1
  rw [e] at this
  exact this
theorem fdb_in {b : Bridge} (h : BOk b) {e : Fent} (he : e ∈ b.2.2.2.1) : (1 ≤ e.1 ∧ e.1 ≤ 99) ∧ (1 ≤ e.2.1 ∧ e.2.1 ≤ 9999) ∧ (0 ≤ e.2.2.1 ∧ e.2.2.1 ≤ 7) := by
  obtain ⟨k, hk, rfl⟩ := List.getElem_of_mem he
  have hv := h.f
  unfold pFdb at hv
  simp only [Bool.and_eq_true, Bool.not_eq_true'] at hv
  have hx := List.any_eq_false.1 hv.1 k (List.mem_range.2 hk)
  unfold bFent at hx
  simp only [List.getElem?_eq_getElem hk, Bool.or_eq_true, Bool.not_eq_true', not_or, Bool.not_eq_false] at hx
  have hf := hx.1
  unfold pFent at hf
  simp only [Bool.and_eq_true] at hf
  exact ⟨inE hf.1, inE hf.2.1, inE hf.2.2.1⟩
theorem counts_in {b : Bridge} (h : BOk b) : (0 ≤ b.2.2.2.2.2.2.1 ∧ b.2.2.2.2.2.2.1 ≤ 1000000) ∧ (0 ≤ b.2.2.2.2.2.2.2.1 ∧ b.2.2.2.2.2.2.2.1 ≤ 1000000) ∧ (0 ≤ b.2.2.2.2.2.2.2.2.1 ∧ b.2.2.2.2.2.2.2.2.1 ≤ 1000000) ∧ (0 ≤ b.2.2.2.2.2.2.2.2.2.1 ∧ b.2.2.2.2.2.2.2.2.2.1 ≤ 1000000) ∧ (0 ≤ b.2.2.2.2.2.2.2.2.2.2 ∧ b.2.2.2.2.2.2.2.2.2.2 ≤ 1000000) := by
  have hc := h.c
  unfold pCounts at hc
  simp only [Bool.and_eq_true] at hc
  exact ⟨inE hc.1, inE hc.2.1, inE hc.2.2.1, inE hc.2.2.2.1, inE hc.2.2.2.2⟩
theorem nm5 {a b : Int} (ha : 0 ≤ a ∧ a ≤ 100000) (hb : 0 ≤ b ∧ b ≤ 100000) : Nm [1, 3, 1, a, b] := ⟨by simp, by simp, fun x hx => by
  simp only [List.mem_cons, List.not_mem_nil, or_false] at hx
  rcases hx with rfl | rfl | rfl | rfl | rfl
  · decide
  · decide
  · decide
  · exact inP ha.1 ha.2
  · exact inP hb.1 hb.2⟩
theorem nm6 {a b c : Int} (ha : 0 ≤ a ∧ a ≤ 100000) (hb : 0 ≤ b ∧ b ≤ 100000) (hc : 0 ≤ c ∧ c ≤ 100000) : Nm [1, 3, 1, a, b, c] := ⟨by simp, by simp, fun x hx => by
  simp only [List.mem_cons, List.not_mem_nil, or_false] at hx
  rcases hx with rfl | rfl | rfl | rfl | rfl | rfl
  · decide
  · decide
  · decide
  · exact inP ha.1 ha.2
  · exact inP hb.1 hb.2
  · exact inP hc.1 hc.2⟩
theorem nm7 {a b c d : Int} (ha : 0 ≤ a ∧ a ≤ 100000) (hb : 0 ≤ b ∧ b ≤ 100000) (hc : 0 ≤ c ∧ c ≤ 100000) (hd : 0 ≤ d ∧ d ≤ 100000) : Nm [1, 3, 1, a, b, c, d] := ⟨by simp, by simp, fun x hx => by
  simp only [List.mem_cons, List.not_mem_nil, or_false] at hx
  rcases hx with rfl | rfl | rfl | rfl | rfl | rfl | rfl
  · decide
  · decide
  · decide
  · exact inP ha.1 ha.2
  · exact inP hb.1 hb.2
  · exact inP hc.1 hc.2
  · exact inP hd.1 hd.2⟩
set_option linter.unusedVariables false
set_option linter.unusedSimpArgs false
/-! ### names, values, requests -/
def bOid (o : List Int) (k : Nat) : Bool := match o[k]? with | some x => !(pIn x 0 100000) | none => false
def pOid (o : List Int) : Bool := !((List.range o.length).any (bOid o)) && pIn (o.length : Int) 1 10
theorem oidT {o : List Int} (h : o.length < 9223372036854775807) : impl_OidOk o = some (pOid o) := by
  unfold impl_OidOk pOid
  have e : loop (fun z => impl_OidOk_l0 o z) 0 = some (cond ((List.range o.length).any (bOid o)) (Sum.inr false) (Sum.inl ())) := by
    rw [← all_loop (n := o.length) (c := fun i => (at? o i).bind fun x => (impl_in x 0 100000).bind fun t => some (!t)) (b := bOid o) h (fun k hk => by
      simp only [at_nat hk, Option.bind_some, bOid, List.getElem?_eq_getElem hk, inT])]
    refine loop_ext (fun i => ?_) 0
    unfold impl_OidOk_l0
    simp only [Option.bind_assoc, Option.bind_some]
  rw [e, Option.bind_some]
  cases (List.range o.length).any (bOid o) with
  | true => rfl
  | false => simp only [cond_false, Sum.elim_inl, inT, Option.bind_some, Bool.not_false, Bool.true_and]
theorem oidS : spec_OidOk = impl_OidOk := rfl
theorem clipT (n : Int) : ∃ c, spec_l1Clip n = some c ∧ (c == n) = pIn n (-2147483648) 2147483647 := by
  unfold spec_l1Clip pIn
  by_cases h1 : n > 2147483647
  · refine ⟨_, by rw [decide_eq_true h1]; rfl, ?_⟩
    rw [decide_eq_false (show ¬ n ≤ 2147483647 by omega), Bool.and_false]
    exact beq_eq_false_iff_ne.2 (by omega)
  · by_cases h2 : n < -2147483648
    · refine ⟨_, by rw [decide_eq_false h1, decide_eq_true h2]; rfl, ?_⟩
      rw [decide_eq_false (show ¬ n ≥ -2147483648 by omega), Bool.false_and]
      exact beq_eq_false_iff_ne.2 (by omega)
    · refine ⟨_, by rw [decide_eq_false h1, decide_eq_false h2]; rfl, ?_⟩
      rw [decide_eq_true (show n ≥ -2147483648 by omega), decide_eq_true (show n ≤ 2147483647 by omega), beq_self_eq_true]; rfl
theorem sameNil (l : List Int) : impl_SameOid l [] = some ((l.length : Int) == 0) := by
  cases l with
  | nil => exact eqS_of (n := 0) (eq_loop' (a := []) (by decide))
  | cons x l =>
    unfold impl_SameOid
    have e : (((x :: l).length : Int) != (([] : List Int).length : Int)) = true := by simp; omega
    rw [e, cond_true, beq_eq_false_iff_ne.2 (by simp; omega)]
theorem sameSelf {l : List Int} (h : l.length ≤ M) : impl_SameOid l l = some true := eqS_of (eq_loop' (le32 h))
theorem eqNil (s : List UInt8) : (s == []) = ((s.length : Int) == 0) := by cases s with
  | nil => rfl
  | cons a s => rw [beq_eq_false_iff_ne.2 (by simp), beq_eq_false_iff_ne.2 (by simp; omega)]
def pVal (v : Val) : Bool :=
  cond (v.1 == 5 || (v.1 == 128 || v.1 == 130)) (v.2.1 == 0 && (v.2.2.1 == [] && ((v.2.2.2.length : Int) == 0)))
    (cond (v.1 == 2) (pIn v.2.1 (-2147483648) 2147483647 && (v.2.2.1 == [] && ((v.2.2.2.length : Int) == 0)))
      (cond (v.1 == 4) (decide ((v.2.2.1.length : Int) ≤ 20) && (v.2.1 == 0 && ((v.2.2.2.length : Int) == 0)))
        (cond (v.1 == 6) (pOid v.2.2.2 && (v.2.1 == 0 && (v.2.2.1 == []))) false)))
theorem valT {v : Val} (h : v.2.2.2.length ≤ M) : impl_ValOk v = some (pVal v) := by
  obtain ⟨k, n, s, o⟩ := v
  have h' : o.length ≤ 1048576 := h
  have ho : o.length ≤ M := h
  have hb : o.length < 9223372036854775807 := by omega
  unfold impl_ValOk pVal impl_SameVal impl_isInt
  simp only [inT, sameNil, sameSelf ho, oidT hb, Option.bind_some]
  by_cases h2 : k = 2
  · subst h2; cases pIn n (-2147483648) 2147483647 <;> cases s == [] <;> cases (o.length : Int) == 0 <;> simp
  by_cases h4 : k = 4
  · subst h4; cases decide ((s.length : Int) ≤ 20) <;> cases n == 0 <;> cases (o.length : Int) == 0 <;> simp
  by_cases h6 : k = 6
  · subst h6; cases pOid o <;> cases n == 0 <;> cases s == [] <;> simp
  rw [beq_eq_false_iff_ne.2 h2, beq_eq_false_iff_ne.2 h4, beq_eq_false_iff_ne.2 h6]
  by_cases h5 : k = 5
  · subst h5; cases n == 0 <;> cases s == [] <;> cases (o.length : Int) == 0 <;> simp
  by_cases h128 : k = 128
  · subst h128; cases n == 0 <;> cases s == [] <;> cases (o.length : Int) == 0 <;> simp
  by_cases h130 : k = 130
  · subst h130; cases n == 0 <;> cases s == [] <;> cases (o.length : Int) == 0 <;> simp
  rw [beq_eq_false_iff_ne.2 h5, beq_eq_false_iff_ne.2 h128, beq_eq_false_iff_ne.2 h130]
  rfl
theorem valS {v : Val} (h : v.2.2.2.length ≤ M) : spec_ValOk v = some (pVal v) := by
  obtain ⟨k, n, s, o⟩ := v
  have h' : o.length ≤ 1048576 := h
  have hb : o.length < 9223372036854775807 := by omega
  obtain ⟨c, hc, hc2⟩ := clipT n
  unfold spec_ValOk pVal
  simp only [oidS, oidT hb, hc, hc2, Option.bind_some]
  by_cases h5 : k = 5
  · subst h5; cases n == 0 <;> cases s == [] <;> cases (o.length : Int) == 0 <;> simp
  by_cases h128 : k = 128
  · subst h128; cases n == 0 <;> cases s == [] <;> cases (o.length : Int) == 0 <;> simp
  by_cases h130 : k = 130
  · subst h130; cases n == 0 <;> cases s == [] <;> cases (o.length : Int) == 0 <;> simp
  rw [beq_eq_false_iff_ne.2 h5, beq_eq_false_iff_ne.2 h128, beq_eq_false_iff_ne.2 h130]
  by_cases h2 : k = 2
  · subst h2; cases pIn n (-2147483648) 2147483647 <;> cases s == [] <;> cases (o.length : Int) == 0 <;> simp
  by_cases h4 : k = 4
  · subst h4; cases decide ((s.length : Int) ≤ 20) <;> cases n == 0 <;> cases (o.length : Int) == 0 <;> simp
  by_cases h6 : k = 6
  · subst h6; cases pOid o <;> cases n == 0 <;> cases s == [] <;> simp
  rw [beq_eq_false_iff_ne.2 h2, beq_eq_false_iff_ne.2 h4, beq_eq_false_iff_ne.2 h6]
  rfl
def xOk (x : Bind) : Bool := pOid x.1 && pVal x.2
def bX (l : List Bind) (k : Nat) : Bool := match l[k]? with | some x => !(xOk x) | none => false
def pPdu (p : Pdu) : Bool :=
  (!((List.range p.2.2.2.2.length).any (bX p.2.2.2.2)) && decide ((p.2.2.2.2.length : Int) ≤ 10)) &&
  (cond (p.1 == 162 || p.1 == 165) (pIn p.2.2.1 0 1000 && pIn p.2.2.2.1 0 1000)
    (cond (p.1 == 160 || (p.1 == 161 || p.1 == 163)) (p.2.2.1 == 0 && p.2.2.2.1 == 0) false) && pIn p.2.1 (-2147483648) 2147483647)
theorem any_or {n : Nat} {f g : Nat → Bool} : (List.range n).any (fun k => f k || g k) = ((List.range n).any f || (List.range n).any g) := by
  generalize List.range n = l
  induction l with
  | nil => rfl
  | cons a l ih => simp only [List.any_cons, ih]; cases f a <;> cases g a <;> simp
theorem any_ten (n : Nat) : (List.range n).any (fun k => decide ((k : Int) ≥ 10)) = !(decide ((n : Int) ≤ 10)) := by
  by_cases h : (n : Int) ≤ 10
  · rw [decide_eq_true h]
    refine Bool.eq_false_iff.2 fun ha => ?_
    obtain ⟨k, h1, h2⟩ := List.any_eq_true.1 ha
    have := List.mem_range.1 h1
    have := of_decide_eq_true h2
    omega
  · rw [decide_eq_false h]
    exact List.any_eq_true.2 ⟨10, List.mem_range.2 (by omega), by decide⟩
theorem pdu_loop {p : Pdu} (h : PLe M p) : loop (fun z => impl_PduOk_l1 p z) 0 = some (cond (!(decide ((p.2.2.2.2.length : Int) ≤ 10)) || (List.range p.2.2.2.2.length).any (bX p.2.2.2.2)) (Sum.inr false) (Sum.inl ())) := by
  obtain ⟨k, i, e, x, l⟩ := p
  have h' : XsLe M l := h
  have hl : l.length ≤ 1048576 := h'.1
  show loop (fun z => impl_PduOk_l1 (k, i, e, x, l) z) 0 = some (cond (!(decide ((l.length : Int) ≤ 10)) || (List.range l.length).any (bX l)) (Sum.inr false) (Sum.inl ()))
  rw [← any_ten, ← any_or, ← all_loop (n := l.length) (c := fun i => (at? l i).bind fun x => (cond (decide (i ≥ 10)) (some true) ((impl_OidOk x.1).bind fun t => some (!t))).bind fun t => (cond t (some true) ((impl_ValOk x.2).bind fun t => some (!t)))) (b := fun k => decide ((k : Int) ≥ 10) || bX l k) (by omega) (fun k hk => by
    have hx : XLe M l[k] := h'.2 _ (List.getElem_mem hk)
    have h1 : l[k].1.length ≤ 1048576 := hx.1
    have h2 : l[k].2.2.2.2.length ≤ M := hx.2.2
    simp only [at_nat hk, Option.bind_some, bX, List.getElem?_eq_getElem hk, oidT (show l[k].1.length < 9223372036854775807 by omega), valT (v := l[k].2) h2, xOk]
    cases decide ((k : Int) ≥ 10) <;> cases pOid l[k].1 <;> cases pVal l[k].2 <;> rfl)]
  refine loop_ext (fun i => ?_) 0
  unfold impl_PduOk_l1
  simp only [Option.bind_assoc, Option.bind_some]
theorem pdu_loopS {p : Pdu} (h : PLe M p) : loop (fun z => spec_PduOk_l0 p z) 0 = some (cond ((List.range p.2.2.2.2.length).any (bX p.2.2.2.2)) (Sum.inr false) (Sum.inl ())) := by
  obtain ⟨k, i, e, x, l⟩ := p
  have h' : XsLe M l := h
  have hl : l.length ≤ 1048576 := h'.1
  show loop (fun z => spec_PduOk_l0 (k, i, e, x, l) z) 0 = some (cond ((List.range l.length).any (bX l)) (Sum.inr false) (Sum.inl ()))
  rw [← all_loop (n := l.length) (c := fun i => (at? l i).bind fun x => (spec_OidOk x.1).bind fun t => (cond (!t) (some true) ((at? l i).bind fun x => (spec_ValOk x.2).bind fun t => some (!t)))) (b := bX l) (by omega) (fun k hk => by
    have hx : XLe M l[k] := h'.2 _ (List.getElem_mem hk)
    have h1 : l[k].1.length ≤ 1048576 := hx.1
    have h2 : l[k].2.2.2.2.length ≤ M := hx.2.2
    simp only [at_nat hk, Option.bind_some, bX, List.getElem?_eq_getElem hk, oidS, oidT (show l[k].1.length < 9223372036854775807 by omega), valS (v := l[k].2) h2, xOk]
    cases pOid l[k].1 <;> cases pVal l[k].2 <;> rfl)]
  refine loop_ext (fun i => ?_) 0
  unfold spec_PduOk_l0
  simp only [Option.bind_assoc, Option.bind_some]
theorem pduT {p : Pdu} (h : PLe M p) : impl_PduOk p = some (pPdu p) := by
  have e0 := pdu_loop h
  have e1 : loop (fun z => impl_PduOk_l1_1 p z) 0 = _ := e0
  have e2 : loop (fun z => impl_PduOk_l1_2 p z) 0 = _ := e0
  have e3 : loop (fun z => impl_PduOk_l1_3 p z) 0 = _ := e0
  have e4 : loop (fun z => impl_PduOk_l1_4 p z) 0 = _ := e0
  have e5 : loop (fun z => impl_PduOk_l1_5 p z) 0 = _ := e0
  have e6 : loop (fun z => impl_PduOk_l1_6 p z) 0 = _ := e0
  have e7 : loop (fun z => impl_PduOk_l1_7 p z) 0 = _ := e0
  have e8 : loop (fun z => impl_PduOk_l1_8 p z) 0 = _ := e0
  unfold impl_PduOk pPdu impl_isInt
  rw [e0, e1, e2, e3, e4, e5, e6, e7, e8]
  simp only [inT, Option.bind_some]
  generalize (List.range p.2.2.2.2.length).any (bX p.2.2.2.2) = u
  generalize decide ((p.2.2.2.2.length : Int) ≤ 10) = w
  generalize pIn p.2.1 (-2147483648) 2147483647 = x
  generalize p.2.2.1 = e
  generalize p.2.2.2.1 = i
  generalize p.1 = k
  by_cases h0 : k = 160
  · subst h0
    have b1 : (e != 0) = !(e == 0) := rfl
    have b2 : (i != 0) = !(i == 0) := rfl
    rw [b1, b2]
    cases e == 0 <;> cases i == 0 <;> cases u <;> cases w <;> cases x <;> rfl
  by_cases h1 : k = 161
  · subst h1
    have b1 : (e != 0) = !(e == 0) := rfl
    have b2 : (i != 0) = !(i == 0) := rfl
    rw [b1, b2]
    cases e == 0 <;> cases i == 0 <;> cases u <;> cases w <;> cases x <;> rfl
  by_cases h3 : k = 163
  · subst h3
    have b1 : (e != 0) = !(e == 0) := rfl
    have b2 : (i != 0) = !(i == 0) := rfl
    rw [b1, b2]
    cases e == 0 <;> cases i == 0 <;> cases u <;> cases w <;> cases x <;> rfl
  by_cases h2 : k = 162
  · subst h2; cases pIn e 0 1000 <;> cases pIn i 0 1000 <;> cases u <;> cases w <;> cases x <;> rfl
  by_cases h5 : k = 165
  · subst h5; cases pIn e 0 1000 <;> cases pIn i 0 1000 <;> cases u <;> cases w <;> cases x <;> rfl
  rw [beq_eq_false_iff_ne.2 h0, beq_eq_false_iff_ne.2 h1, beq_eq_false_iff_ne.2 h2, beq_eq_false_iff_ne.2 h3, beq_eq_false_iff_ne.2 h5]
  cases u <;> cases w <;> rfl
theorem pduS {p : Pdu} (h : PLe M p) : spec_PduOk p = some (pPdu p) := by
  obtain ⟨c, hc, hc2⟩ := clipT p.2.1
  unfold spec_PduOk pPdu spec_l4Kind
  rw [pdu_loopS h]
  simp only [inS, hc, hc2, Option.bind_some]
  generalize (List.range p.2.2.2.2.length).any (bX p.2.2.2.2) = u
  generalize decide ((p.2.2.2.2.length : Int) ≤ 10) = w
  generalize pIn p.2.1 (-2147483648) 2147483647 = x
  generalize p.2.2.1 = e
  generalize p.2.2.2.1 = i
  generalize p.1 = k
  have b1 : (e != 0) = !(e == 0) := rfl
  have b2 : (i != 0) = !(i == 0) := rfl
  rw [b1, b2]
  have z1 : (e == 0) = true → pIn e 0 1000 = true := fun h => by rw [eq_of_beq h]; rfl
  have z2 : (i == 0) = true → pIn i 0 1000 = true := fun h => by rw [eq_of_beq h]; rfl
  by_cases h2 : k = 162
  · subst h2; cases pIn e 0 1000 <;> cases pIn i 0 1000 <;> cases u <;> cases w <;> cases x <;> rfl
  by_cases h5 : k = 165
  · subst h5; cases pIn e 0 1000 <;> cases pIn i 0 1000 <;> cases u <;> cases w <;> cases x <;> rfl
  have n2 : (k != 162) = true := bne_iff_ne.2 h2
  have n5 : (k != 165) = true := bne_iff_ne.2 h5
  rw [n2, n5, beq_eq_false_iff_ne.2 h2, beq_eq_false_iff_ne.2 h5]
  cases he : e == 0 with
  | false => cases hi : i == 0 <;> cases u <;> cases w <;> cases x <;> cases k == 160 <;> cases k == 161 <;> cases k == 163 <;> rfl
  | true =>
    rw [z1 he]
    cases hi : i == 0 with
    | false => cases u <;> cases w <;> cases x <;> cases k == 160 <;> cases k == 161 <;> cases k == 163 <;> rfl
    | true =>
      rw [z2 hi]
      cases u <;> cases w <;> cases x <;> cases k == 160 <;> cases k == 161 <;> cases k == 163 <;> rfl
/-! ### jobs, agents -/
def jTries (j : Job) : Int := j.2.2.2.2.2.2.2.2.2.2.2.2.2.2.2.2.2.2.2.2
def jAt (j : Job) : Int := j.2.2.2.2.2.2.2.2.2.2.2.2.2.2.2.2.2.2.2.1
noncomputable def pJob (j : Job) : Bool := pIn j.2.2.1 0 2 && (pIn (jAt j) 0 (j.2.2.2.2.2.2.2.1.length : Int) && (pIn (jTries j) 0 3 && (j.2.2.1 == 0 || (pPdu (jP j) && ((j.2.2.2.1 != 162) && pBridge (jB j))))))
structure JWf (j : Job) : Prop where
  p : PLe M (jP j)
  b : BWf (jB j)
theorem jobT {j : Job} (h : JWf j) : impl_jobOk j = some (pJob j) := by
  have hp : impl_PduOk (j.2.2.2.1, j.2.2.2.2.1, j.2.2.2.2.2.1, j.2.2.2.2.2.2.1, j.2.2.2.2.2.2.2.1) = some (pPdu (jP j)) := pduT h.p
  have hb := bridgeT h.b
  unfold jB at hb
  unfold impl_jobOk pJob
  rw [hp, hb]
  simp only [inT, Option.bind_some, jAt, jTries]
  cases pIn j.2.2.1 0 2 <;> cases pIn j.2.2.2.2.2.2.2.2.2.2.2.2.2.2.2.2.2.2.2.1 0 (j.2.2.2.2.2.2.2.1.length : Int) <;> cases pIn j.2.2.2.2.2.2.2.2.2.2.2.2.2.2.2.2.2.2.2.2 0 3 <;> cases j.2.2.1 == 0 <;> cases pPdu (jP j) <;> cases j.2.2.2.1 != 162 <;> rfl
theorem jobS {j : Job} (h : JWf j) (last : Int) : spec_l20Job j last = some (pIn j.1 1 last && pJob j) := by
  have hp : spec_PduOk (j.2.2.2.1, j.2.2.2.2.1, j.2.2.2.2.2.1, j.2.2.2.2.2.2.1, j.2.2.2.2.2.2.2.1) = some (pPdu (jP j)) := pduS h.p
  have hb := bridgeS h.b
  unfold jB at hb
  unfold spec_l20Job spec_l20Asks pJob
  rw [hp, hb]
  simp only [inS, Option.bind_some, jAt, jTries]
  cases pIn j.1 1 last <;> cases pIn j.2.2.1 0 2 <;> cases pIn j.2.2.2.2.2.2.2.2.2.2.2.2.2.2.2.2.2.2.2.1 0 (j.2.2.2.2.2.2.2.1.length : Int) <;> cases pIn j.2.2.2.2.2.2.2.2.2.2.2.2.2.2.2.2.2.2.2.2 0 3 <;> cases j.2.2.1 == 0 <;> cases pPdu (jP j) <;> cases j.2.2.2.1 != 162 <;> rfl
def aJobs (a : Agent) : List Job := a.2.2.2.2.2.2.2.2.2.2.2.2.1
def aLast (a : Agent) : Int := a.2.2.2.2.2.2.2.2.2.2.2.2.2.2
def aLost (a : Agent) : Int := a.2.2.2.2.2.2.2.2.2.2.2.2.2.1
noncomputable def bJob (l : List Job) (last : Int) (k : Nat) : Bool := match l[k]? with
  | some j => !(pIn j.1 1 last && pJob j) || (decide (0 < k) && (match l[k - 1]? with | some p => decide (p.1 ≥ j.1) | none => false))
  | none => false
noncomputable def pAgent (a : Agent) : Bool := !((List.range (aJobs a).length).any (bJob (aJobs a) (aLast a))) && (pBridge (aB a) && (decide ((a.2.2.2.2.2.2.2.2.2.2.2.1.length : Int) ≤ 20) && (decide (((aJobs a).length : Int) ≤ 6) && (pIn (aLost a) 0 1000000 && pIn (aLast a) 0 1000000))))
structure AWf (a : Agent) : Prop where
  b : BWf (aB a)
  n : (aJobs a).length ≤ 1048576
  j : ∀ x ∈ aJobs a, JWf x
theorem agent_loop {a : Agent} (h : AWf a) : loop (fun z => impl_AgentOk_l0 a z) 0 = some (cond ((List.range (aJobs a).length).any (bJob (aJobs a) (aLast a))) (Sum.inr false) (Sum.inl ())) := by
  have hn := h.n
  rw [← all_loop (n := (aJobs a).length) (c := fun i => (at? (aJobs a) i).bind fun x => (impl_in x.1 1 (aLast a)).bind fun t => (cond (!t) (some true) ((cond (decide (i > 0)) ((at? (aJobs a) (w64 (i - 1))).bind fun y => some (decide (y.1 ≥ x.1))) (some false)).bind fun t => some t)).bind fun t => (cond t (some true) ((impl_jobOk x).bind fun t => some (!t))).bind fun t => some t) (b := bJob (aJobs a) (aLast a)) (by omega) (fun k hk => by
    simp only [at_nat hk, Option.bind_some, inT, jobT (h.j _ (List.getElem_mem hk)), bJob, List.getElem?_eq_getElem hk]
    by_cases h0 : 0 < k
    · have hd : decide ((k : Int) > 0) = true := decide_eq_true (by omega)
      simp only [hd, prev_at hk h0 (by omega), Option.bind_some, decide_eq_true h0, List.getElem?_eq_getElem (show k - 1 < (aJobs a).length by omega), cond_true]
      cases pIn (aJobs a)[k].1 1 (aLast a) <;> cases decide ((aJobs a)[k - 1].1 ≥ (aJobs a)[k].1) <;> cases pJob (aJobs a)[k] <;> rfl
    · have hd : decide ((k : Int) > 0) = false := decide_eq_false (by omega)
      simp only [hd, decide_eq_false h0]
      cases pIn (aJobs a)[k].1 1 (aLast a) <;> cases pJob (aJobs a)[k] <;> rfl)]
  refine loop_ext (fun i => ?_) 0
  unfold impl_AgentOk_l0 aJobs aLast
  simp only [Option.bind_assoc, Option.bind_some]
theorem agent_loopS {a : Agent} (h : AWf a) : loop (fun z => spec_AgentOk_l0 a z) 0 = some (cond ((List.range (aJobs a).length).any (bJob (aJobs a) (aLast a))) (Sum.inr false) (Sum.inl ())) := by
  have hn := h.n
  rw [← all_loop (n := (aJobs a).length) (c := fun i => (at? (aJobs a) i).bind fun x => (spec_l20Job x (aLast a)).bind fun t => (cond (!t) (some true) ((cond (decide (i > 0)) ((at? (aJobs a) (w64 (i - 1))).bind fun y => (at? (aJobs a) i).bind fun x => some (decide (y.1 ≥ x.1))) (some false)).bind fun t => some t))) (b := bJob (aJobs a) (aLast a)) (by omega) (fun k hk => by
    simp only [at_nat hk, Option.bind_some, jobS (h.j _ (List.getElem_mem hk)), bJob, List.getElem?_eq_getElem hk]
    by_cases h0 : 0 < k
    · have hd : decide ((k : Int) > 0) = true := decide_eq_true (by omega)
      simp only [hd, prev_at hk h0 (by omega), Option.bind_some, decide_eq_true h0, List.getElem?_eq_getElem (show k - 1 < (aJobs a).length by omega), cond_true]
      cases pIn (aJobs a)[k].1 1 (aLast a) <;> cases decide ((aJobs a)[k - 1].1 ≥ (aJobs a)[k].1) <;> cases pJob (aJobs a)[k] <;> rfl
    · have hd : decide ((k : Int) > 0) = false := decide_eq_false (by omega)
      simp only [hd, decide_eq_false h0]
      cases pIn (aJobs a)[k].1 1 (aLast a) <;> cases pJob (aJobs a)[k] <;> rfl)]
  refine loop_ext (fun i => ?_) 0
  unfold spec_AgentOk_l0 aJobs aLast
  simp only [Option.bind_assoc, Option.bind_some]
theorem gtNot (n m : Int) : decide (n > m) = !(decide (n ≤ m)) := by
  by_cases h : n ≤ m
  · rw [decide_eq_true h, decide_eq_false (by omega)]; rfl
  · rw [decide_eq_false h, decide_eq_true (by omega)]; rfl
theorem agentT {a : Agent} (h : AWf a) : impl_AgentOk a = some (pAgent a) := by
  have hb : impl_BridgeOk (a.1, a.2.1, a.2.2.1, a.2.2.2.1, a.2.2.2.2.1, a.2.2.2.2.2.1, a.2.2.2.2.2.2.1, a.2.2.2.2.2.2.2.1, a.2.2.2.2.2.2.2.2.1, a.2.2.2.2.2.2.2.2.2.1, a.2.2.2.2.2.2.2.2.2.2.1) = some (pBridge (aB a)) := bridgeT h.b
  unfold impl_AgentOk pAgent
  rw [agent_loop h, hb]
  simp only [countT, Option.bind_some, gtNot, aLost, aLast]
  generalize (List.range (aJobs a).length).any _ = u
  show _ = some (!u && (pBridge (aB a) && (_ && (decide ((a.2.2.2.2.2.2.2.2.2.2.2.2.1.length : Int) ≤ 6) && (_)))))
  cases u <;> cases pBridge (aB a) <;> cases decide ((a.2.2.2.2.2.2.2.2.2.2.2.1.length : Int) ≤ 20) <;> cases decide ((a.2.2.2.2.2.2.2.2.2.2.2.2.1.length : Int) ≤ 6) <;> cases pIn a.2.2.2.2.2.2.2.2.2.2.2.2.2.1 0 1000000 <;> cases pIn a.2.2.2.2.2.2.2.2.2.2.2.2.2.2 0 1000000 <;> rfl
theorem agentS {a : Agent} (h : AWf a) : spec_AgentOk a = some (pAgent a) := by
  have hb : spec_BridgeOk (a.1, a.2.1, a.2.2.1, a.2.2.2.1, a.2.2.2.2.1, a.2.2.2.2.2.1, a.2.2.2.2.2.2.1, a.2.2.2.2.2.2.2.1, a.2.2.2.2.2.2.2.2.1, a.2.2.2.2.2.2.2.2.2.1, a.2.2.2.2.2.2.2.2.2.2.1) = some (pBridge (aB a)) := bridgeS h.b
  unfold spec_AgentOk pAgent
  rw [agent_loopS h, hb]
  simp only [inS, Option.bind_some, aLost, aLast]
  generalize (List.range (aJobs a).length).any _ = u
  show _ = some (!u && (pBridge (aB a) && (_ && (decide ((a.2.2.2.2.2.2.2.2.2.2.2.2.1.length : Int) ≤ 6) && (_)))))
  cases u <;> cases pBridge (aB a) <;> cases decide ((a.2.2.2.2.2.2.2.2.2.2.2.1.length : Int) ≤ 20) <;> cases decide ((a.2.2.2.2.2.2.2.2.2.2.2.2.1.length : Int) ≤ 6) <;> cases pIn a.2.2.2.2.2.2.2.2.2.2.2.2.2.1 0 1000000 <;> cases pIn a.2.2.2.2.2.2.2.2.2.2.2.2.2.2 0 1000000 <;> rfl
theorem bind_wf {x : Bind} (h : Cs.wf cBind x) : XLe maxLen x := by
  simp only [cBind, Cs.wf, CT.wf] at h
  exact ⟨h.1.1, h.2.2.2.1, h.2.2.2.2.1⟩
theorem job_wf {j : Job} (h : Cs.wf cJob j) : JLe maxLen j := by
  simp only [cJob, Cs.wf, CT.wf] at h
  obtain ⟨_, h1, _, _, _, _, _, h2, _, h3, h4, h5, h6, h7, _⟩ := h
  refine ⟨h1.1, ⟨h2.1, fun x hx => bind_wf ?_⟩, ⟨h3, h4.1, h5.1, h6.1, h7.1⟩⟩
  have := h2.2 x hx
  simpa only [cBind, Cs.wf, CT.wf] using this
theorem agent_wf {a : Agent} (h : Cs.wf cAgent a) : ALe maxLen a := by
  simp only [cAgent, Cs.wf, CT.wf] at h
  obtain ⟨_, h1, h2, h3, h4, h5, _, _, _, _, _, h6, h7, _⟩ := h
  refine ⟨⟨h1, h2.1, h3.1, h4.1, h5.1⟩, h6, h7.1, fun x hx => job_wf ?_⟩
  have := h7.2 x hx
  simpa only [cJob, Cs.wf, CT.wf] using this
theorem job_jwf {j : Job} (h : Cs.wf cJob j) (hl : JLe M j) : JWf j := by
  obtain ⟨_, l1, l2⟩ := hl
  refine ⟨l1, ?_⟩
  obtain ⟨_, l2, l3, l4, l5⟩ := l2
  have hM : M < 9223372036854775807 := by decide
  refine ⟨by omega, by omega, by omega, by omega, fun r hr => ?_⟩
  simp only [cJob, Cs.wf, CT.wf] at h
  obtain ⟨_, _, _, _, _, _, _, _, _, _, _, _, h4, _⟩ := h
  exact (h4.2 r hr).2.2
theorem agent_awf {a : Agent} (h : Cs.wf cAgent a) (hl : ALe M a) : AWf a := by
  obtain ⟨⟨_, l2, l3, l4, l5⟩, l6, l7⟩ := hl
  have hM : M < 9223372036854775807 := by decide
  simp only [cAgent, Cs.wf, CT.wf] at h
  obtain ⟨_, _, _, _, h4, _, _, _, _, _, _, _, h7, _⟩ := h
  refine ⟨⟨by omega, by omega, by omega, by omega, fun r hr => (h4.2 r hr).2.2⟩, l7.1, fun x hx => job_jwf ?_ (l7.2 x hx)⟩
  have := h7.2 x hx
  simpa only [cJob, Cs.wf, CT.wf] using this
set_option linter.unusedVariables false
set_option linter.unusedSimpArgs false
/-! ### copies -/
theorem app_nil {α : Type} {ys : List α} (h : ys.length ≤ M) : app [] ys = some ys := by
  unfold app
  rw [if_pos (by show 0 + ys.length ≤ 4294967296; have h' : ys.length ≤ 1048576 := h; omega)]; rfl
theorem copyInts {l : List Int} (h : l.length ≤ M) : impl_copyInts l = some l := by unfold impl_copyInts; rw [app_nil h]; rfl
theorem copyBytes {l : List Int} (h : l.length ≤ M) : impl_copyBytes l = some l := by unfold impl_copyBytes; rw [app_nil h]; rfl
theorem copyFdb {l : List Fent} (h : l.length ≤ M) : impl_copyFdb l = some l := by unfold impl_copyFdb; rw [app_nil h]; rfl
theorem copyFdbS {l : List Fent} (h : l.length ≤ M) : spec_l8Copy l = some l := by unfold spec_l8Copy; rw [app_nil h]; rfl
theorem copyVtab {v : Vtab} (h : v.1.length ≤ M ∧ v.2.length ≤ M) : impl_copyVtab v = some v := by
  unfold impl_copyVtab; rw [app_nil h.1, Option.bind_some, copyInts h.2]; rfl
theorem copyVtabS {v : Vtab} (h : v.1.length ≤ M ∧ v.2.length ≤ M) : spec_l9Copy v = some v := by
  unfold spec_l9Copy; rw [app_nil h.1, Option.bind_some, app_nil h.2]; rfl
theorem copyBridge {b : Bridge} (h : BLe M b) : impl_copyBridge b = some b := by
  obtain ⟨h1, h2, h3, h4, h5⟩ := h
  unfold impl_copyBridge
  rw [app_nil h2, Option.bind_some, copyFdb h3, Option.bind_some, copyVtab ⟨h4, h5⟩]; rfl
theorem copyBridgeS {b : Bridge} (h : BLe M b) : spec_l11Copy b = some b := by
  obtain ⟨h1, h2, h3, h4, h5⟩ := h
  unfold spec_l11Copy
  rw [app_nil h2, Option.bind_some, copyFdbS h3, Option.bind_some, copyVtabS ⟨h4, h5⟩]; rfl
/-! ### what an argument is -/
theorem bridge_wf {b : Bridge} (h : Cs.wf cBridge b) : BLe maxLen b := by
  simp only [cBridge, Cs.wf, CT.wf] at h
  obtain ⟨_, h1, h2, h3, h4, h5, _⟩ := h
  exact ⟨h1, h2.1, h3.1, h4.1, h5.1⟩
theorem bridge_bwf {b : Bridge} (h : Cs.wf cBridge b) (hl : BLe M b) : BWf b := by
  obtain ⟨_, l2, l3, l4, l5⟩ := hl
  have hM : M < 9223372036854775807 := by decide
  refine ⟨by omega, by omega, by omega, by omega, fun r hr => ?_⟩
  simp only [cBridge, Cs.wf, CT.wf] at h
  obtain ⟨_, _, _, _, h4, _⟩ := h
  have := (h4.2 r hr).2.2
  exact this
set_option linter.unusedVariables false
set_option linter.unusedSimpArgs false
/-! ### an agent copied -/
theorem copy_loop {α : Type} {l : List α} {step : Int × List α → Option ((Int × List α) ⊕ List α)} (hn : l.length ≤ M)
    (hs : ∀ k (hk : k < l.length) out, step ((k : Int), out) = (app out [l[k]]).bind fun zs => some (.inl (((k + 1 : Nat) : Int), zs)))
    (he : ∀ out, step ((l.length : Int), out) = some (.inr out)) : loop step (0, []) = some l := by
  have hn' : l.length ≤ 1048576 := hn
  obtain ⟨b, h1, rfl⟩ := loop_inv (step := step) (fun k z => z = ((k : Int), l.take k)) l.length (fun b => b = l)
    (fun k z hk e => by
      subst e
      left
      refine ⟨_, by rw [hs k hk, app_small (by rw [List.length_take]; show _ + 1 ≤ _; omega), Option.bind_some], ?_⟩
      rw [List.take_add_one, List.getElem?_eq_getElem hk]; rfl)
    (fun z e => by
      subst e
      exact ⟨_, he _, by rw [List.take_length]⟩) (x := (0, [])) rfl
  exact h1
theorem copyVal {v : Val} (h : VLe M v) : impl_copyVal v = some v := by unfold impl_copyVal; rw [copyInts h.2]; rfl
theorem copyBinds {l : List Bind} (h : XsLe M l) : impl_copyBinds l = some l := by
  have hn : l.length ≤ 1048576 := h.1
  unfold impl_copyBinds
  rw [copy_loop (step := fun z => impl_copyBinds_l0 l z.1 z.2) h.1 (fun k hk out => by
    show impl_copyBinds_l0 l (k : Int) out = _
    unfold impl_copyBinds_l0
    have hx := h.2 _ (List.getElem_mem hk)
    rw [dlt (by omega), cond_true, at_nat hk, Option.bind_some, copyInts hx.1, Option.bind_some, copyVal hx.2, Option.bind_some, w64_nat (by omega)]) (fun out => by
    show impl_copyBinds_l0 l (l.length : Int) out = _
    unfold impl_copyBinds_l0
    rw [dnlt (by omega), cond_false])]; rfl
theorem copyBindsS {l : List Bind} (h : XsLe M l) : spec_l4Copy l = some l := by
  have hn : l.length ≤ 1048576 := h.1
  unfold spec_l4Copy
  rw [copy_loop (step := fun z => spec_l4Copy_l0 l z.1 z.2) h.1 (fun k hk out => by
    show spec_l4Copy_l0 l (k : Int) out = _
    unfold spec_l4Copy_l0
    have hx := h.2 _ (List.getElem_mem hk)
    rw [dlt (by omega), cond_true, at_nat hk, Option.bind_some, app_nil hx.2.2, Option.bind_some, Option.bind_some, app_nil hx.1, Option.bind_some, w64_nat (by omega)]) (fun out => by
    show spec_l4Copy_l0 l (l.length : Int) out = _
    unfold spec_l4Copy_l0
    rw [dnlt (by omega), cond_false])]; rfl
theorem copyPdu {p : Pdu} (h : PLe M p) : impl_copyPdu p = some p := by unfold impl_copyPdu; rw [copyBinds h]; rfl
theorem copyPduS {p : Pdu} (h : PLe M p) : spec_l20CopyPdu p = some p := by unfold spec_l20CopyPdu; rw [copyBindsS h]; rfl
theorem copyAgent {a : Agent} (h : ALe M a) : impl_copyAgent a = some a := by
  obtain ⟨h1, h2, h3, h4⟩ := h
  have hn : (aJobs a).length ≤ 1048576 := h3
  unfold impl_copyAgent
  have hb : impl_copyBridge (a.1, a.2.1, a.2.2.1, a.2.2.2.1, a.2.2.2.2.1, a.2.2.2.2.2.1, a.2.2.2.2.2.2.1, a.2.2.2.2.2.2.2.1, a.2.2.2.2.2.2.2.2.1, a.2.2.2.2.2.2.2.2.2.1, a.2.2.2.2.2.2.2.2.2.2.1) = some (aB a) := copyBridge h1
  rw [hb, Option.bind_some, copy_loop (l := aJobs a) (step := fun z => impl_copyAgent_l0 a z.1 z.2) h3 (fun k hk out => by
    show impl_copyAgent_l0 a (k : Int) out = _
    unfold impl_copyAgent_l0
    obtain ⟨hx1, hx2, hx3⟩ := h4 _ (List.getElem_mem hk)
    have e0 : at? a.2.2.2.2.2.2.2.2.2.2.2.2.1 (k : Int) = some (aJobs a)[k] := at_nat hk
    rw [dlt (show (k : Int) < (a.2.2.2.2.2.2.2.2.2.2.2.2.1.length : Int) by show (k : Int) < ((aJobs a).length : Int); omega), cond_true, e0, Option.bind_some]
    generalize (aJobs a)[k] = x at hx1 hx2 hx3
    have e1 : impl_copyPdu (x.2.2.2.1, x.2.2.2.2.1, x.2.2.2.2.2.1, x.2.2.2.2.2.2.1, x.2.2.2.2.2.2.2.1) = some (jP x) := copyPdu hx2
    have e2 : impl_copyBridge (x.2.2.2.2.2.2.2.2.1, x.2.2.2.2.2.2.2.2.2.1, x.2.2.2.2.2.2.2.2.2.2.1, x.2.2.2.2.2.2.2.2.2.2.2.1, x.2.2.2.2.2.2.2.2.2.2.2.2.1, x.2.2.2.2.2.2.2.2.2.2.2.2.2.1, x.2.2.2.2.2.2.2.2.2.2.2.2.2.2.1, x.2.2.2.2.2.2.2.2.2.2.2.2.2.2.2.1, x.2.2.2.2.2.2.2.2.2.2.2.2.2.2.2.2.1, x.2.2.2.2.2.2.2.2.2.2.2.2.2.2.2.2.2.1, x.2.2.2.2.2.2.2.2.2.2.2.2.2.2.2.2.2.2.1) = some (jB x) := copyBridge hx3
    rw [copyBytes hx1, Option.bind_some, e1, Option.bind_some, e2, Option.bind_some, w64_nat (by omega)]
    rfl) (fun out => by
    show impl_copyAgent_l0 a ((aJobs a).length : Int) out = _
    unfold impl_copyAgent_l0
    rw [dnlt (show ¬ ((aJobs a).length : Int) < (a.2.2.2.2.2.2.2.2.2.2.2.2.1.length : Int) by show ¬ ((aJobs a).length : Int) < ((aJobs a).length : Int); omega), cond_false])]
  rfl
theorem copyAgentS {a : Agent} (h : ALe M a) : spec_l20Copy a = some a := by
  obtain ⟨h1, h2, h3, h4⟩ := h
  have hn : (aJobs a).length ≤ 1048576 := h3
  unfold spec_l20Copy
  have hb : spec_l11Copy (a.1, a.2.1, a.2.2.1, a.2.2.2.1, a.2.2.2.2.1, a.2.2.2.2.2.1, a.2.2.2.2.2.2.1, a.2.2.2.2.2.2.2.1, a.2.2.2.2.2.2.2.2.1, a.2.2.2.2.2.2.2.2.2.1, a.2.2.2.2.2.2.2.2.2.2.1) = some (aB a) := copyBridgeS h1
  rw [hb, Option.bind_some]
  obtain ⟨d, d1, rfl⟩ := loop_inv (step := fun z : Int × Int × List UInt8 × Int × Int × Int × Int × Int × List UInt8 × Int × Int × List Job => spec_l20Copy_l0 a z.1 z.2.1 z.2.2.1 z.2.2.2.1 z.2.2.2.2.1 z.2.2.2.2.2.1 z.2.2.2.2.2.2.1 z.2.2.2.2.2.2.2.1 z.2.2.2.2.2.2.2.2.1 z.2.2.2.2.2.2.2.2.2.1 z.2.2.2.2.2.2.2.2.2.2.1 z.2.2.2.2.2.2.2.2.2.2.2)
    (fun k z => z = ((k : Int), a.1, a.2.1, a.2.2.2.2.2.2.1, a.2.2.2.2.2.2.2.1, a.2.2.2.2.2.2.2.2.1, a.2.2.2.2.2.2.2.2.2.1, a.2.2.2.2.2.2.2.2.2.2.1, a.2.2.2.2.2.2.2.2.2.2.2.1, a.2.2.2.2.2.2.2.2.2.2.2.2.2.1, a.2.2.2.2.2.2.2.2.2.2.2.2.2.2, (aJobs a).take k)) (aJobs a).length
    (fun d => d = (a.1, a.2.1, a.2.2.2.2.2.2.1, a.2.2.2.2.2.2.2.1, a.2.2.2.2.2.2.2.2.1, a.2.2.2.2.2.2.2.2.2.1, a.2.2.2.2.2.2.2.2.2.2.1, a.2.2.2.2.2.2.2.2.2.2.2.1, a.2.2.2.2.2.2.2.2.2.2.2.2.2.1, a.2.2.2.2.2.2.2.2.2.2.2.2.2.2, aJobs a))
    (fun k z hk e => by
      subst e
      left
      simp only
      unfold spec_l20Copy_l0
      obtain ⟨hx1, hx2, hx3⟩ := h4 _ (List.getElem_mem hk)
      have e0 : at? a.2.2.2.2.2.2.2.2.2.2.2.2.1 (k : Int) = some (aJobs a)[k] := at_nat hk
      have et : (aJobs a).take (k + 1) = (aJobs a).take k ++ [(aJobs a)[k]] := by rw [List.take_add_one, List.getElem?_eq_getElem hk]; rfl
      rw [dlt (show (k : Int) < (a.2.2.2.2.2.2.2.2.2.2.2.2.1.length : Int) by show (k : Int) < ((aJobs a).length : Int); omega), cond_true, e0, Option.bind_some, et]
      generalize (aJobs a)[k] = x at hx1 hx2 hx3
      have e1 : spec_l20CopyPdu (x.2.2.2.1, x.2.2.2.2.1, x.2.2.2.2.2.1, x.2.2.2.2.2.2.1, x.2.2.2.2.2.2.2.1) = some (jP x) := copyPduS hx2
      have e2 : spec_l11Copy (x.2.2.2.2.2.2.2.2.1, x.2.2.2.2.2.2.2.2.2.1, x.2.2.2.2.2.2.2.2.2.2.1, x.2.2.2.2.2.2.2.2.2.2.2.1, x.2.2.2.2.2.2.2.2.2.2.2.2.1, x.2.2.2.2.2.2.2.2.2.2.2.2.2.1, x.2.2.2.2.2.2.2.2.2.2.2.2.2.2.1, x.2.2.2.2.2.2.2.2.2.2.2.2.2.2.2.1, x.2.2.2.2.2.2.2.2.2.2.2.2.2.2.2.2.1, x.2.2.2.2.2.2.2.2.2.2.2.2.2.2.2.2.2.1, x.2.2.2.2.2.2.2.2.2.2.2.2.2.2.2.2.2.2.1) = some (jB x) := copyBridgeS hx3
      rw [app_nil hx1, Option.bind_some, e1, Option.bind_some, e2, Option.bind_some, app_small (by rw [List.length_take]; show _ + 1 ≤ _; omega), Option.bind_some, w64_nat (by omega)]
      exact ⟨_, rfl, rfl⟩)
    (fun z e => by
      subst e
      simp only
      unfold spec_l20Copy_l0
      rw [dnlt (show ¬ ((aJobs a).length : Int) < (a.2.2.2.2.2.2.2.2.2.2.2.2.1.length : Int) by show ¬ ((aJobs a).length : Int) < ((aJobs a).length : Int); omega), cond_false, List.take_length]
      exact ⟨_, rfl, rfl⟩) (x := (0, a.1, a.2.1, a.2.2.2.2.2.2.1, a.2.2.2.2.2.2.2.1, a.2.2.2.2.2.2.2.2.1, a.2.2.2.2.2.2.2.2.2.1, a.2.2.2.2.2.2.2.2.2.2.1, a.2.2.2.2.2.2.2.2.2.2.2.1, a.2.2.2.2.2.2.2.2.2.2.2.2.2.1, a.2.2.2.2.2.2.2.2.2.2.2.2.2.2, [])) rfl
  have d1' : loop (fun z : Int × Int × List UInt8 × Int × Int × Int × Int × Int × List UInt8 × Int × Int × List Job => spec_l20Copy_l0 a z.1 z.2.1 z.2.2.1 z.2.2.2.1 z.2.2.2.2.1 z.2.2.2.2.2.1 z.2.2.2.2.2.2.1 z.2.2.2.2.2.2.2.1 z.2.2.2.2.2.2.2.2.1 z.2.2.2.2.2.2.2.2.2.1 z.2.2.2.2.2.2.2.2.2.2.1 z.2.2.2.2.2.2.2.2.2.2.2) (0, (aB a).1, (aB a).2.1, (aB a).2.2.2.2.2.2.1, (aB a).2.2.2.2.2.2.2.1, (aB a).2.2.2.2.2.2.2.2.1, (aB a).2.2.2.2.2.2.2.2.2.1, (aB a).2.2.2.2.2.2.2.2.2.2, a.2.2.2.2.2.2.2.2.2.2.2.1, a.2.2.2.2.2.2.2.2.2.2.2.2.2.1, a.2.2.2.2.2.2.2.2.2.2.2.2.2.2, []) = _ := d1
  rw [d1']
  rfl

set_option linter.unusedVariables false
set_option linter.unusedSimpArgs false
theorem rowAtM {v : Vtab} (hn : v.1.length < 9223372036854775807) {x : Vrow} (hx : x ∈ v.1) : ∃ r, impl_RowAt v x.1 = some r ∧ ¬ r < 0 := by
  unfold impl_RowAt
  obtain ⟨b, h1, h2⟩ := loop_inv (β := Unit ⊕ Int) (step := fun z => impl_RowAt_l0 v x.1 z) (fun k i => i = (k : Int) ∧ ∀ y ∈ v.1.take k, y.1 ≠ x.1) v.1.length (fun b => ∃ k : Nat, b = .inr (k : Int))
    (fun k i hk ⟨h, hy⟩ => by
      subst h
      unfold impl_RowAt_l0
      rw [dlt (by omega), cond_true, at_nat hk, Option.bind_some]
      cases hb : (v.1[k].1 == x.1) with
      | true => exact .inr ⟨_, rfl, k, rfl⟩
      | false =>
        refine .inl ⟨_, rfl, w64_nat (by omega), fun y hy' => ?_⟩
        rw [List.take_add_one, List.getElem?_eq_getElem hk, List.mem_append] at hy'
        rcases hy' with hy' | hy'
        · exact hy y hy'
        · simp at hy'; subst hy'; exact beq_eq_false_iff_ne.1 hb)
    (fun i ⟨h, hy⟩ => by
      rw [List.take_length] at hy
      exact absurd rfl (hy x hx)) (x := 0) ⟨rfl, by simp⟩
  obtain ⟨k, rfl⟩ := h2
  rw [h1, Option.bind_some]
  exact ⟨(k : Int), rfl, by omega⟩
/-- The names that can be set. -/
inductive CanSet (b : Bridge) : List Int → Prop
  | name : CanSet b [1, 3, 1, 1, 1]
  | cost {k : Int} (h : pIn k 1 (b.2.2.1.length : Int) = true) : CanSet b [1, 3, 1, 2, 2, k]
  | pvid {k : Int} (h : pIn k 1 (b.2.2.1.length : Int) = true) : CanSet b [1, 3, 1, 2, 4, k]
  | row {k : Int} (h : pIn k 1 99 = true) : CanSet b [1, 3, 1, 3, 1, k]
  | bits {c k : Int} (hc : c = 2 ∨ c = 3) (h : pIn k 1 99 = true) (hr : ∃ x ∈ b.2.2.2.2.1, x.1 = k) : CanSet b [1, 3, 1, 3, c, k]
/-- The names that can be read alone. -/
inductive CanRead (b : Bridge) : List Int → Prop
  | count {k : Int} (h : pIn k 2 5 = true) : CanRead b [1, 3, 1, 1, k]
  | port {c k : Int} (hc : c = 1 ∨ c = 3) (h : pIn k 1 (b.2.2.1.length : Int) = true) : CanRead b [1, 3, 1, 2, c, k]
  | fdb {e : Fent} (he : e ∈ b.2.2.2.1) : CanRead b [1, 3, 1, 4, 1, e.1, e.2.1]
/-! ### copies, and the same -/
theorem copyX {b : Bridge} (h : BOk b) : impl_copyBridge b = some b := by
  have h1 := h.n6
  have h2 := h.f12
  obtain ⟨_, _, h3, h4⟩ := h.vt.len
  have h3' : b.2.2.2.2.2.1.length = b.2.2.1.length := h3
  have h4' : b.2.2.2.2.1.length ≤ 6 := h4
  unfold impl_copyBridge impl_copyFdb impl_copyVtab impl_copyInts
  rw [app_small (by show 0 + b.2.2.1.length ≤ _; omega), Option.bind_some, app_small (by show 0 + b.2.2.2.1.length ≤ _; omega), Option.bind_some, Option.bind_some, app_small (by show 0 + b.2.2.2.2.1.length ≤ _; omega), Option.bind_some, app_small (by show 0 + b.2.2.2.2.2.1.length ≤ _; omega), Option.bind_some, Option.bind_some, Option.bind_some]
  rfl
theorem all_same {n : Nat} {step : Int → Option (Int ⊕ (Unit ⊕ Bool))} (h : ∀ k, k < n → step (k : Int) = some (.inl ((k + 1 : Nat) : Int))) (he : step (n : Int) = some (.inr (.inl ()))) : loop step 0 = some (.inl ()) := by
  obtain ⟨v, e, rfl⟩ := loop_inv (step := step) (fun k i => i = (k : Int)) n (fun v => v = .inl ()) (fun k i hk e => by subst e; exact .inl ⟨_, h k hk, rfl⟩) (fun i e => by subst e; exact ⟨_, he, rfl⟩) (x := 0) rfl
  exact e
set_option linter.unusedVariables false
set_option linter.unusedSimpArgs false
/-! ### a row's place, an entry's place -/
def rowIx (l : List Vrow) (id : Int) : Int := match l.findIdx? (fun r => r.1 == id) with | some k => (k : Int) | none => -1
theorem rowAtX {v : Vtab} (hn : v.1.length < 9223372036854775807) (id : Int) : impl_RowAt v id = some (rowIx v.1 id) := by
  unfold impl_RowAt rowIx
  obtain ⟨b, h1, rfl⟩ := loop_inv (β := Unit ⊕ Int) (step := fun z => impl_RowAt_l0 v id z) (fun k i => i = (k : Int) ∧ ∀ j (hj : j < k), ∀ (hl : j < v.1.length), ¬ ((v.1[j].1 == id) = true)) v.1.length (fun b => b = match v.1.findIdx? (fun r => r.1 == id) with | some k => .inr (k : Int) | none => .inl ())
    (fun k i hk ⟨h, hy⟩ => by
      subst h
      unfold impl_RowAt_l0
      rw [dlt (by omega), cond_true, at_nat hk, Option.bind_some]
      cases hb : (v.1[k].1 == id) with
      | true =>
        refine .inr ⟨_, rfl, ?_⟩
        rw [List.findIdx?_eq_some_iff_getElem.2 ⟨hk, hb, fun j hj => hy j hj (by omega)⟩]
      | false =>
        refine .inl ⟨_, rfl, w64_nat (by omega), fun j hj hl => ?_⟩
        by_cases hjk : j = k
        · subst hjk; rw [hb]; simp
        · exact hy j (by omega) hl)
    (fun i ⟨h, hy⟩ => by
      subst h
      refine ⟨.inl (), by unfold impl_RowAt_l0; rw [dnlt (by omega), cond_false], ?_⟩
      rw [List.findIdx?_eq_none_iff.2 fun x hx => by
        obtain ⟨j, hj, rfl⟩ := List.getElem_of_mem hx
        have := hy j hj hj
        simpa using this]) (x := 0) ⟨rfl, fun j hj => by omega⟩
  rw [h1, Option.bind_some]
  cases v.1.findIdx? (fun r => r.1 == id) <;> rfl
theorem rowAtXS {v : Vtab} (hn : v.1.length < 9223372036854775807) (id : Int) : spec_RowAt v id = some (rowIx v.1 id) := rowAtX hn id
theorem rowIx_some {l : List Vrow} {id : Int} (h : 0 ≤ rowIx l id) : ∃ k, ∃ hk : k < l.length, rowIx l id = (k : Int) ∧ l[k].1 = id := by
  unfold rowIx at h ⊢
  cases hf : l.findIdx? (fun r => r.1 == id) with
  | none => rw [hf] at h; simp at h
  | some k =>
    obtain ⟨hk, h1, _⟩ := List.findIdx?_eq_some_iff_getElem.1 hf
    exact ⟨k, hk, rfl, by simpa using h1⟩
theorem rowIx_none {l : List Vrow} {id : Int} (h : rowIx l id < 0) : ∀ x ∈ l, x.1 ≠ id := by
  unfold rowIx at h
  cases hf : l.findIdx? (fun r => r.1 == id) with
  | some k => rw [hf] at h; simp at h; omega
  | none =>
    intro x hx
    have := List.findIdx?_eq_none_iff.1 hf x hx
    simpa using this
def entIx (l : List Fent) (tag mac : Int) : Int := match l.findIdx? (fun e => e.1 == tag && e.2.1 == mac) with | some k => (k : Int) | none => -1
/-! ### what can be set, what can be read: as truths -/
def numP (o : List Int) (lo hi : Int) (head : List Int) : Bool := (o.length == head.length + 4) && ((o.take (head.length + 3) == [1, 3, 1] ++ head) && (match o[head.length + 3]? with | some x => pIn x lo hi | none => false))
abbrev nPorts (b : Bridge) : Int := (b.2.2.1.length : Int)
abbrev bRows (b : Bridge) : List Vrow := b.2.2.2.2.1
def canP (b : Bridge) (o : List Int) : Bool := numP o 1 1 [1] || (numP o 1 (nPorts b) [2, 2] || (numP o 1 (nPorts b) [2, 4] || (numP o 1 99 [3, 1] || ((numP o 1 99 [3, 2] || numP o 1 99 [3, 3]) && (match o[5]? with | some x => decide (rowIx (bRows b) x ≥ 0) | none => false)))))
theorem numP_len {o : List Int} {lo hi : Int} {head : List Int} (h : numP o lo hi head = true) : o.length = head.length + 4 := by
  unfold numP at h
  simp only [Bool.and_eq_true, beq_iff_eq] at h
  exact h.1
def readP (b : Bridge) (o : List Int) : Bool := numP o 2 5 [1] || (numP o 1 (nPorts b) [2, 1] || (numP o 1 (nPorts b) [2, 3] || (((o.length == 7) && (o.take 5 == [1, 3, 1, 4, 1])) && (match o[5]?, o[6]? with | some x, some y => decide (entIx b.2.2.2.1 x y ≥ 0) | _, _ => false))))
/-! ### the reference's -/
def belP (o : List Int) : Bool := decide (o.length > 3) && (o.take 3 == [1, 3, 1])
def mayP (b : Bridge) (o : List Int) : Bool := belP o && (match o.drop 3 with
  | [a, c] => a == 1 && c == 1
  | [a, c, p] => (a == 2 && ((c == 2 || c == 4) && pIn p 1 (nPorts b))) || (a == 3 && ((c == 1 && pIn p 1 99) || ((c == 2 || c == 3) && decide (rowIx (bRows b) p ≥ 0))))
  | _ => false)
def seenP (b : Bridge) (o : List Int) : Bool := belP o && (match o.drop 3 with
  | [a, c] => a == 1 && pIn c 2 5
  | [a, c, p] => a == 2 && ((c == 1 || c == 3) && pIn p 1 (nPorts b))
  | [a, c, p, q] => (a == 4 && c == 1) && decide (entIx b.2.2.2.1 p q ≥ 0)
  | _ => false)
set_option linter.unusedVariables false
set_option linter.unusedSimpArgs false
/-! ### what setting asks of a bridge, and keeps -/
structure SOk (b : Bridge) : Prop where
  id : pIn b.1 1 99 = true
  name : b.2.1.length ≤ 10
  n1 : 1 ≤ b.2.2.1.length
  n6 : b.2.2.1.length ≤ 6
  p : ∀ x ∈ b.2.2.1, pPt x = true
  f : pFdb b.2.2.2.1 = true
  c : pCounts b = true
  q : b.2.2.2.2.2.1.length = b.2.2.1.length
  v : b.2.2.2.2.1.length ≤ 6
  s : b.2.2.2.2.1.Pairwise fun r s => r.1 < s.1
  i : ∀ r ∈ b.2.2.2.2.1, pIn r.1 1 99 = true
  h : ∀ r ∈ b.2.2.2.2.1, -9223372036854775808 ≤ r.2.2 ∧ r.2.2 ≤ 9223372036854775807
theorem SOk.f12 {b : Bridge} (h : SOk b) : b.2.2.2.1.length ≤ 12 := by
  have hf := h.f
  unfold pFdb at hf
  simp only [Bool.and_eq_true, decide_eq_true_eq] at hf
  omega
theorem SOk.le {b : Bridge} (h : SOk b) : BLe M b := by
  have h1 := h.name; have h2 := h.n6; have h3 := h.f12; have h4 := h.v; have h5 := h.q
  have hM : M = 1048576 := rfl
  exact ⟨by omega, by omega, by omega, by omega, by omega⟩
theorem SOk.bwf {b : Bridge} (h : SOk b) : BWf b := by
  have h1 := h.name; have h2 := h.n6; have h3 := h.f12; have h4 := h.v; have h5 := h.q
  exact ⟨by omega, by omega, by omega, by omega, h.h⟩
theorem BOk.sok {b : Bridge} (h : BOk b) : SOk b := by
  obtain ⟨v1, v2, v3, v4⟩ := h.vt.len
  refine ⟨h.id, h.name, h.n1, h.n6, h.p, h.f, h.c, v3, v4, rows_rise h, fun r hr => ?_, h.w.r⟩
  obtain ⟨k, hk, rfl⟩ := List.getElem_of_mem hr
  have hv := h.v
  unfold pVtab at hv
  simp only [Bool.and_eq_true, Bool.not_eq_true'] at hv
  have hx := List.any_eq_false.1 hv.2.1 k (List.mem_range.2 hk)
  unfold bRow at hx
  simp only [List.getElem?_eq_getElem hk] at hx
  cases hq : pIn b.2.2.2.2.1[k].1 1 99 with
  | true => rfl
  | false => rw [hq] at hx; simp at hx
/-! ### what can be set, said in two ways -/
theorem short3 {o : List Int} (h : o.length ≤ 2) : (∀ lo hi head, numP o lo hi head = false) ∧ belP o = false := by
  refine ⟨fun lo hi head => ?_, ?_⟩
  · unfold numP
    rw [beq_eq_false_iff_ne.2 (by omega), Bool.false_and]
  · unfold belP
    rw [decide_eq_false (by omega), Bool.false_and]
theorem bad3 {x y z : Int} {t : List Int} (h : ¬ (x = 1 ∧ y = 3 ∧ z = 1)) : (∀ lo hi head, numP (x :: y :: z :: t) lo hi head = false) ∧ belP (x :: y :: z :: t) = false := by
  refine ⟨fun lo hi head => ?_, ?_⟩
  · unfold numP
    have : ((x :: y :: z :: t).take (head.length + 3) == [1, 3, 1] ++ head) = false := by
      rw [beq_eq_false_iff_ne]
      intro e
      rw [List.take_succ_cons, List.take_succ_cons, List.take_succ_cons] at e
      simp at e
      exact h ⟨e.1, e.2.1, e.2.2.1⟩
    rw [this, Bool.false_and, Bool.and_false]
  · unfold belP
    have : ((x :: y :: z :: t).take 3 == [1, 3, 1]) = false := by
      rw [beq_eq_false_iff_ne]
      intro e
      simp at e
      exact h e
    rw [this, Bool.and_false]
theorem num1 (t : List Int) (lo hi c : Int) : numP (1 :: 3 :: 1 :: t) lo hi [c] = match t with | [a, x] => a == c && pIn x lo hi | _ => false := by
  match t with
  | [] => simp [numP]
  | [a] => simp [numP]
  | [a, x] => simp [numP]
  | a :: x :: y :: t => simp [numP]
theorem num2 (t : List Int) (lo hi c d : Int) : numP (1 :: 3 :: 1 :: t) lo hi [c, d] = match t with | [a, b, x] => (a == c && b == d) && pIn x lo hi | _ => false := by
  match t with
  | [] => simp [numP]
  | [a] => simp [numP]
  | [a, x] => simp [numP]
  | [a, b, x] => simp [numP]
  | a :: b :: x :: y :: t => simp [numP]
theorem bel3 (t : List Int) : belP (1 :: 3 :: 1 :: t) = decide (0 < t.length) := by
  unfold belP
  rw [show ((1 :: 3 :: 1 :: t).take 3 == [1, 3, 1]) = true from rfl, Bool.and_true]
  simp
theorem in1 (c : Int) : pIn c 1 1 = (c == 1) := by
  unfold pIn
  by_cases h : c = 1
  · subst h; rfl
  · rw [beq_eq_false_iff_ne.2 h]
    simp only [Bool.and_eq_false_iff, decide_eq_false_iff_not]; omega
theorem can_may {b : Bridge} (h : SOk b) (o : List Int) : canP b o = mayP b o := by
  unfold canP mayP
  match o with
  | [] => simp only [(short3 (o := []) (by simp)).1, (short3 (o := []) (by simp)).2]; rfl
  | [x] => simp only [(short3 (o := [x]) (by simp)).1, (short3 (o := [x]) (by simp)).2]; rfl
  | [x, y] => simp only [(short3 (o := [x, y]) (by simp)).1, (short3 (o := [x, y]) (by simp)).2]; rfl
  | x :: y :: z :: t =>
    by_cases h3 : x = 1 ∧ y = 3 ∧ z = 1
    · obtain ⟨rfl, rfl, rfl⟩ := h3
      simp only [num1, num2, bel3, in1]
      match t with
      | [] => rfl
      | [a] => simp
      | [a, c] => simp
      | [a, c, p] =>
        have hp : decide (rowIx (bRows b) p ≥ 0) = true → pIn p 1 99 = true := by
          intro e
          obtain ⟨k, hk, _, e2⟩ := rowIx_some (of_decide_eq_true e)
          rw [← e2]; exact h.i _ (List.getElem_mem hk)
        have e5 : (1 :: 3 :: 1 :: [a, c, p])[5]? = some p := rfl
        rw [e5]
        rw [show decide (0 < [a, c, p].length) = true from rfl, Bool.true_and]
        show (((false : Bool) || ((((a == 2) && (c == 2)) && pIn p 1 (nPorts b)) || ((((a == 2) && (c == 4)) && pIn p 1 (nPorts b)) || ((((a == 3) && (c == 1)) && pIn p 1 99) || (((((a == 3) && (c == 2)) && pIn p 1 99) || (((a == 3) && (c == 3)) && pIn p 1 99)) && decide (rowIx (bRows b) p ≥ 0))))))) = ((a == 2) && (((c == 2) || (c == 4)) && pIn p 1 (nPorts b)) || (a == 3) && ((c == 1) && pIn p 1 99 || ((c == 2) || (c == 3)) && decide (rowIx (bRows b) p ≥ 0)))
        revert hp
        generalize (a == 2) = a2
        generalize (a == 3) = a3
        generalize (c == 1) = c1
        generalize (c == 2) = c2
        generalize (c == 3) = c3
        generalize (c == 4) = c4
        generalize pIn p 1 (nPorts b) = pn
        generalize pIn p 1 99 = pg
        generalize decide (rowIx (bRows b) p ≥ 0) = R
        clear e5
        revert a2 a3 c1 c2 c3 c4 pn pg R
        decide
      | a :: c :: p :: q :: l => simp
    · simp only [(bad3 (t := t) h3).1, (bad3 (t := t) h3).2]; rfl
theorem read_seen {b : Bridge} (h : SOk b) (o : List Int) : readP b o = seenP b o := by
  unfold readP seenP
  match o with
  | [] => simp only [(short3 (o := []) (by simp)).1, (short3 (o := []) (by simp)).2]; rfl
  | [x] => simp only [(short3 (o := [x]) (by simp)).1, (short3 (o := [x]) (by simp)).2]; rfl
  | [x, y] => simp only [(short3 (o := [x, y]) (by simp)).1, (short3 (o := [x, y]) (by simp)).2]; rfl
  | x :: y :: z :: t =>
    by_cases h3 : x = 1 ∧ y = 3 ∧ z = 1
    · obtain ⟨rfl, rfl, rfl⟩ := h3
      simp only [num1, num2, bel3, in1]
      match t with
      | [] => rfl
      | [a] => simp
      | [a, c] => simp
      | [a, c, p] =>
        have e7 : ((1 :: 3 :: 1 :: [a, c, p]).length == 7) = false := rfl
        rw [e7, Bool.false_and, Bool.false_and, Bool.false_or]
        show ((a == 2 && c == 1) && pIn p 1 (nPorts b) || ((a == 2 && c == 3) && pIn p 1 (nPorts b) || false)) = (true && (a == 2 && ((c == 1 || c == 3) && pIn p 1 (nPorts b))))
        cases (a == 2) <;> cases (c == 1) <;> cases (c == 3) <;> simp
      | [a, c, p, q] => simp
      | a :: c :: p :: q :: r :: l => simp
    · simp only [(bad3 (t := t) h3).1, (bad3 (t := t) h3).2]
      rw [Bool.false_or, Bool.false_or, Bool.false_or, Bool.false_and]
      have : ((x :: y :: z :: t).take 5 == [1, 3, 1, 4, 1]) = false := by
        rw [beq_eq_false_iff_ne]
        intro e
        simp at e
        exact h3 ⟨e.1, e.2.1, e.2.2.1⟩
      rw [this, Bool.and_false, Bool.false_and]
/-! ### a row put in its place -/
def insG (r : Vrow) : Bool → List Vrow → List Vrow
  | false, [] => [r]
  | true, [] => []
  | false, x :: t => if x.1 ≥ r.1 then r :: (if x.1 != r.1 then x :: insG r true t else insG r true t) else x :: insG r false t
  | true, x :: t => if x.1 != r.1 then x :: insG r true t else insG r true t
theorem insG_true {r : Vrow} : ∀ {l : List Vrow}, (∀ x ∈ l, x.1 ≠ r.1) → insG r true l = l
  | [], _ => rfl
  | x :: t, h => by
    unfold insG
    rw [if_pos (bne_iff_ne.2 (h x (by simp))), insG_true fun y hy => h y (List.mem_cons_of_mem _ hy)]
theorem insG_set {r : Vrow} : ∀ {l : List Vrow} {k : Nat} (hk : k < l.length), l.Pairwise (fun r s => r.1 < s.1) → l[k].1 = r.1 → insG r false l = l.set k r
  | x :: t, 0, _, hp, e => by
    have e' : x.1 = r.1 := e
    unfold insG
    rw [if_pos (by omega), if_neg (by simp [e']), insG_true fun y hy => by have := (List.pairwise_cons.1 hp).1 y hy; omega]
    rfl
  | x :: t, k + 1, hk, hp, e => by
    have e' : (t[k]'(by simpa using hk)).1 = r.1 := e
    have := (List.pairwise_cons.1 hp).1 _ (List.getElem_mem (by simpa using hk : k < t.length))
    unfold insG
    rw [if_neg (by omega), insG_set (by simpa using hk) (List.pairwise_cons.1 hp).2 e']
    rfl
theorem insG_at {r : Vrow} : ∀ {l : List Vrow} {d : Nat}, l.Pairwise (fun r s => r.1 < s.1) → (∀ x ∈ l, x.1 ≠ r.1) → (∀ x ∈ l.take d, x.1 ≤ r.1) → (∀ x, l[d]? = some x → ¬ x.1 ≤ r.1) → insG r false l = l.take d ++ r :: l.drop d
  | [], d, _, _, _, _ => by simp [insG]
  | x :: t, 0, hp, hn, _, h2 => by
    have := h2 x rfl
    unfold insG
    rw [if_pos (by omega), if_pos (bne_iff_ne.2 (hn x (by simp))), insG_true fun y hy => hn y (List.mem_cons_of_mem _ hy)]
    rfl
  | x :: t, d + 1, hp, hn, h1, h2 => by
    have a1 := h1 x (by simp)
    have a2 := hn x (by simp)
    unfold insG
    rw [if_neg (by omega), insG_at (d := d) (List.pairwise_cons.1 hp).2 (fun y hy => hn y (List.mem_cons_of_mem _ hy)) (fun y hy => h1 y (by rw [List.take_succ_cons]; exact List.mem_cons_of_mem _ hy)) (fun y hy => h2 y (by simpa using hy))]
    rfl
set_option linter.unusedVariables false
set_option linter.unusedSimpArgs false
/-! ### one name set, said in two ways -/
def Sets (b : Bridge) (m s : Option (Bridge × Int)) : Prop := ∃ r, m = some r ∧ s = some r ∧ SOk r.1 ∧ (r.2 ≠ 0 → r.1 = b)
theorem cutIx_ok {n a b : Nat} (h1 : a ≤ b) (h2 : b ≤ n) : cutIx n (a : Int) (b : Int) = some (a, b) := by
  unfold cutIx
  rw [if_pos (by omega), if_pos (by omega), if_pos (by omega)]; simp
theorem insG_ok {r : Vrow} {l : List Vrow} (hs : l.Pairwise fun r s => r.1 < s.1) (hi : ∀ x ∈ l, pIn x.1 1 99 = true) (hh : ∀ x ∈ l, -9223372036854775808 ≤ x.2.2 ∧ x.2.2 ≤ 9223372036854775807)
    (ri : pIn r.1 1 99 = true) (rh : -9223372036854775808 ≤ r.2.2 ∧ r.2.2 ≤ 9223372036854775807) :
    (insG r false l).Pairwise (fun r s => r.1 < s.1) ∧ (∀ x ∈ insG r false l, pIn x.1 1 99 = true) ∧ (∀ x ∈ insG r false l, -9223372036854775808 ≤ x.2.2 ∧ x.2.2 ≤ 9223372036854775807) := by
  have hm : ∀ {dn : Bool} {l : List Vrow}, ∀ x ∈ insG r dn l, x = r ∨ x ∈ l := by
    intro dn l
    induction l generalizing dn with
    | nil => intro x hx; cases dn <;> simp [insG] at hx; exact .inl hx
    | cons y t ih =>
      intro x hx
      cases dn with
      | true =>
        unfold insG at hx
        split at hx
        · rcases List.mem_cons.1 hx with rfl | hx
          · exact .inr (by simp)
          · rcases ih x hx with e | e
            · exact .inl e
            · exact .inr (List.mem_cons_of_mem _ e)
        · rcases ih x hx with e | e
          · exact .inl e
          · exact .inr (List.mem_cons_of_mem _ e)
      | false =>
        unfold insG at hx
        split at hx
        · rcases List.mem_cons.1 hx with rfl | hx
          · exact .inl rfl
          · split at hx
            · rcases List.mem_cons.1 hx with rfl | hx
              · exact .inr (by simp)
              · rcases ih x hx with e | e
                · exact .inl e
                · exact .inr (List.mem_cons_of_mem _ e)
            · rcases ih x hx with e | e
              · exact .inl e
              · exact .inr (List.mem_cons_of_mem _ e)
        · rcases List.mem_cons.1 hx with rfl | hx
          · exact .inr (by simp)
          · rcases ih x hx with e | e
            · exact .inl e
            · exact .inr (List.mem_cons_of_mem _ e)
  have hp : ∀ {l : List Vrow}, l.Pairwise (fun r s => r.1 < s.1) → (insG r false l).Pairwise (fun r s => r.1 < s.1) := by
    intro l
    induction l with
    | nil => intro _; simp [insG]
    | cons y t ih =>
      intro h
      have h1 := (List.pairwise_cons.1 h).1
      have h2 := (List.pairwise_cons.1 h).2
      unfold insG
      split
      · next hy =>
        have ht : insG r true t = t := insG_true fun z hz => by have := h1 z hz; omega
        rw [ht]
        split
        · next hq =>
          have hq := bne_iff_ne.1 hq
          refine List.pairwise_cons.2 ⟨fun z hz => ?_, h⟩
          rcases List.mem_cons.1 hz with rfl | hz
          · omega
          · have := h1 z hz; omega
        · next hq =>
          have hq : y.1 = r.1 := by simpa using hq
          refine List.pairwise_cons.2 ⟨fun z hz => ?_, h2⟩
          have := h1 z hz; omega
      · next hy =>
        refine List.pairwise_cons.2 ⟨fun z hz => ?_, ih h2⟩
        rcases hm z hz with rfl | hz
        · omega
        · exact h1 z hz
  refine ⟨hp hs, fun x hx => ?_, fun x hx => ?_⟩
  · rcases hm x hx with rfl | hx
    · exact ri
    · exact hi x hx
  · rcases hm x hx with rfl | hx
    · exact rh
    · exact hh x hx
theorem insG_len {r : Vrow} {dn : Bool} {l : List Vrow} : (insG r dn l).length ≤ l.length + 1 := by
  induction l generalizing dn with
  | nil => cases dn <;> simp [insG]
  | cons x t ih =>
    have h1 := ih (dn := true)
    have h2 := ih (dn := false)
    have h3 : (insG r true t).length ≤ t.length := by
      clear ih h1 h2
      induction t with
      | nil => simp [insG]
      | cons y t ih => unfold insG; split <;> simp <;> omega
    cases dn <;> unfold insG <;> split <;> (try split) <;> simp <;> omega
theorem SOk.rows {b : Bridge} (h : SOk b) {R : List Vrow} (h1 : R.length ≤ 6) (h2 : R.Pairwise fun r s => r.1 < s.1) (h3 : ∀ x ∈ R, pIn x.1 1 99 = true) (h4 : ∀ x ∈ R, -9223372036854775808 ≤ x.2.2 ∧ x.2.2 ≤ 9223372036854775807) :
    SOk (b.1, b.2.1, b.2.2.1, b.2.2.2.1, R, b.2.2.2.2.2.1, b.2.2.2.2.2.2.1, b.2.2.2.2.2.2.2.1, b.2.2.2.2.2.2.2.2.1, b.2.2.2.2.2.2.2.2.2.1, b.2.2.2.2.2.2.2.2.2.2) :=
  ⟨h.id, h.name, h.n1, h.n6, h.p, h.f, h.c, h.q, h1, h2, h3, h4⟩
theorem ports6 {b : Bridge} (h : SOk b) : pIn (b.2.2.1.length : Int) 1 6 = true := by
  have h1 := h.n1; have h2 := h.n6
  unfold pIn
  rw [decide_eq_true (by omega), decide_eq_true (by omega)]; rfl
theorem may_shape {b : Bridge} {o : List Int} (h : mayP b o = true) : o = [1, 3, 1, 1, 1] ∨ (∃ c p, o = [1, 3, 1, 2, c, p] ∧ (c = 2 ∨ c = 4) ∧ pIn p 1 (nPorts b) = true) ∨ (∃ c p, o = [1, 3, 1, 3, c, p] ∧ ((c = 1 ∧ pIn p 1 99 = true) ∨ ((c = 2 ∨ c = 3) ∧ rowIx (bRows b) p ≥ 0))) := by
  unfold mayP at h
  rw [Bool.and_eq_true] at h
  obtain ⟨h1, h2⟩ := h
  unfold belP at h1
  simp only [Bool.and_eq_true, decide_eq_true_eq, beq_iff_eq] at h1
  have ho : o = [1, 3, 1] ++ o.drop 3 := by rw [← h1.2, List.take_append_drop]
  match hd : o.drop 3, h2 with
  | [a, c], h2 =>
    simp only [Bool.and_eq_true, beq_iff_eq] at h2
    rw [hd] at ho
    exact .inl (by rw [ho, h2.1, h2.2]; rfl)
  | [a, c, p], h2 =>
    rw [hd] at ho
    simp only [Bool.or_eq_true, Bool.and_eq_true, beq_iff_eq, decide_eq_true_eq] at h2
    rcases h2 with ⟨rfl, h3, h4⟩ | ⟨rfl, h3⟩
    · exact .inr (.inl ⟨c, p, ho, h3, h4⟩)
    · exact .inr (.inr ⟨c, p, ho, h3⟩)
theorem portIx {b : Bridge} {p : Int} (h : pIn p 1 (nPorts b) = true) (hn : b.2.2.1.length ≤ 6) : ∃ k, k < b.2.2.1.length ∧ w64 (p - 1) = (k : Int) := by
  unfold pIn nPorts at h
  simp only [Bool.and_eq_true, decide_eq_true_eq] at h
  exact ⟨(p - 1).toNat, by omega, by rw [w64_id (by omega) (by omega)]; omega⟩
theorem pt_cost {p : Pt} {n : Int} (hn : pIn n 1 1000 = true) (h : pPt p = true) : pPt (p.1, n, p.2.2.1, p.2.2.2.1, p.2.2.2.2.1, p.2.2.2.2.2.1, p.2.2.2.2.2.2.1, p.2.2.2.2.2.2.2) = true := by
  unfold pPt at h ⊢
  rw [Bool.and_eq_true] at h ⊢
  exact ⟨hn, h.2⟩
set_option linter.unusedVariables false
set_option linter.unusedSimpArgs false
/-! ### many names set -/
/-- Two loops that go alike. -/
theorem loop_two {α β : Type} {step t : α → Option (α ⊕ β)} (Inv : Nat → α → Prop) (m : Nat) (R : β → Prop)
    (h : ∀ k x, k < m → Inv k x → (∃ y, step x = some (.inl y) ∧ t x = some (.inl y) ∧ Inv (k + 1) y) ∨ ∃ b, step x = some (.inr b) ∧ t x = some (.inr b) ∧ R b)
    (he : ∀ x, Inv m x → ∃ b, step x = some (.inr b) ∧ t x = some (.inr b) ∧ R b) {x : α} (h0 : Inv 0 x) : ∃ b, loop step x = some b ∧ loop t x = some b ∧ R b := by
  have key : ∀ n k x, k + n = m → Inv k x → ∃ b, iter step (n + 1) x = some b ∧ iter t (n + 1) x = some b ∧ R b := by
    intro n
    induction n with
    | zero =>
      intro k x hk hx
      obtain rfl : k = m := by omega
      obtain ⟨b, h1, h3, h2⟩ := he x hx
      exact ⟨b, by rw [iter_succ, h1]; rfl, by rw [iter_succ, h3]; rfl, h2⟩
    | succ n ih =>
      intro k x hk hx
      rcases h k x (by omega) hx with ⟨y, h1, h5, h2⟩ | ⟨b, h1, h5, h2⟩
      · obtain ⟨b, h3, h6, h4⟩ := ih (k + 1) y (by omega) h2
        exact ⟨b, by rw [iter_succ, h1]; exact h3, by rw [iter_succ, h5]; exact h6, h4⟩
      · exact ⟨b, by rw [iter_succ, h1]; rfl, by rw [iter_succ, h5]; rfl, h2⟩
  obtain ⟨b, h1, h3, h2⟩ := key m 0 x (by omega) h0
  exact ⟨b, loop_of h1, loop_of h3, h2⟩
theorem fb_of {l : List Fent} (h : pFdb l = true) : FB l := by
  unfold pFdb at h
  simp only [Bool.and_eq_true, Bool.not_eq_true', decide_eq_true_eq] at h
  refine ⟨fun x hx => ?_, adj_pair (R := lt) (fun _ _ _ => lt_trans) fun k hk => ?_, by omega⟩
  · obtain ⟨k, hk, rfl⟩ := List.getElem_of_mem hx
    have hx := List.any_eq_false.1 h.1 k (List.mem_range.2 hk)
    unfold bFent at hx
    simp only [List.getElem?_eq_getElem hk, Bool.or_eq_true, not_or, Bool.not_eq_true', Bool.not_eq_false] at hx
    exact hx.1
  · have hx := List.any_eq_false.1 h.1 (k + 1) (List.mem_range.2 hk)
    unfold bFent at hx
    simp only [List.getElem?_eq_getElem hk, Nat.add_sub_cancel, List.getElem?_eq_getElem (show k < l.length by omega), Bool.or_eq_true, Bool.and_eq_true, decide_eq_true_eq, not_or, not_and, Bool.not_eq_true', Bool.not_eq_false] at hx
    have hp := hx.2 (by omega)
    unfold pBehind at hp
    simp only [Bool.or_eq_true, Bool.and_eq_true, decide_eq_true_eq, beq_iff_eq] at hp
    unfold lt
    omega
theorem FB.sub {l m : List Fent} (h : FB l) (hs : m.Sublist l) : FB m :=
  ⟨fun x hx => h.e x (hs.subset hx), h.o.sublist hs, Nat.le_trans hs.length_le h.n⟩
def flushF (l : List Fent) (p : Int) : List Fent := l.filter fun e => e.2.2.2.2 || e.2.2.1 != p
theorem flush_loop {l : List Fent} (p : Int) (hn : l.length ≤ 1000) (step : Int × List Fent → Option ((Int × List Fent) ⊕ List Fent))
    (hs : ∀ k (hk : k < l.length) out, step ((k : Int), out) = cond (l[k].2.2.2.2 || l[k].2.2.1 != p) ((app out [l[k]]).bind fun zs => some (.inl (((k + 1 : Nat) : Int), zs))) (some (.inl (((k + 1 : Nat) : Int), out))))
    (he : ∀ out, step ((l.length : Int), out) = some (.inr out)) : loop step (0, []) = some (flushF l p) := by
  obtain ⟨b, h1, rfl⟩ := loop_inv (step := step) (fun k z => z.1 = (k : Int) ∧ z.2 = flushF (l.take k) p) l.length (fun b => b = flushF l p)
    (fun k z hk ⟨z1, z2⟩ => by
      obtain ⟨i, out⟩ := z
      simp only at z1 z2
      subst z1 z2
      left
      have hl : (flushF (l.take k) p).length ≤ k := by
        have := (List.filter_sublist (p := fun e : Fent => e.2.2.2.2 || e.2.2.1 != p) (l := l.take k)).length_le
        rw [List.length_take] at this
        show (List.filter _ _).length ≤ k
        omega
      have ht : flushF (l.take (k + 1)) p = flushF (l.take k) p ++ cond (l[k].2.2.2.2 || l[k].2.2.1 != p) [l[k]] [] := by
        unfold flushF
        rw [List.take_add_one, List.getElem?_eq_getElem hk, List.filter_append]
        rw [Option.toList_some, List.filter_cons, List.filter_nil]
        cases (l[k].2.2.2.2 || l[k].2.2.1 != p) <;> rfl
      rw [hs k hk]
      cases hc : (l[k].2.2.2.2 || l[k].2.2.1 != p) with
      | true =>
        rw [hc] at ht
        exact ⟨_, by rw [cond_true, app_small (by show _ + 1 ≤ _; omega)]; rfl, rfl, by rw [ht]; rfl⟩
      | false =>
        rw [hc] at ht
        exact ⟨_, rfl, rfl, by rw [ht]; simp⟩)
    (fun z ⟨z1, z2⟩ => by
      obtain ⟨i, out⟩ := z
      simp only at z1 z2
      subst z1 z2
      exact ⟨_, he _, by rw [List.take_length]⟩) (x := (0, [])) ⟨rfl, rfl⟩
  exact h1
theorem bit_in : ∀ k : Nat, k < 6 → pIn (k : Int) 0 62 = true ∧ pIn (k : Int) 0 7 = true := by
  intro k hk
  unfold pIn
  constructor <;> (rw [decide_eq_true (by omega), decide_eq_true (by omega)]; rfl)
theorem shrK (c : Int) {k : Nat} (hk : k < 6) : ∃ t, shr .i64 c (k : Int) = some t := by
  unfold shr
  rw [if_neg (by omega)]
  exact ⟨_, rfl⟩
theorem moreX {n : Int} (h : pIn n 0 1000000 = true) : ∃ r, impl_more n = some r ∧ spec_l11One n = some r ∧ pIn r 0 1000000 = true := by
  unfold pIn at h
  simp only [Bool.and_eq_true, decide_eq_true_eq] at h
  unfold impl_more spec_l11One pIn min2
  rw [w64_id (by omega) (by omega)]
  by_cases hn : n ≥ 1000000
  · rw [decide_eq_true hn, cond_true]
    refine ⟨n, ?_, rfl, ?_⟩
    · simp only; split <;> first | rfl | (congr 1; omega)
    · simp only [Bool.and_eq_true, decide_eq_true_eq]; omega
  · rw [decide_eq_false hn, cond_false]
    refine ⟨n + 1, ?_, rfl, ?_⟩
    · simp only; split <;> first | rfl | (congr 1; omega)
    · simp only [Bool.and_eq_true, decide_eq_true_eq]; omega
theorem SOk.ok {b : Bridge} (h : SOk b) (hv : pVtab (b.2.2.2.2.1, b.2.2.2.2.2.1) (b.2.2.1.length : Int) = true) : pBridge b = true := by
  unfold pBridge
  have h1 : (List.range b.2.2.1.length).any (bPt b.2.2.1) = false := by
    rw [List.any_eq_false]
    intro k hk
    have hk := List.mem_range.1 hk
    unfold bPt
    simp [List.getElem?_eq_getElem hk, h.p _ (List.getElem_mem hk)]
  have h2 := h.name
  rw [h1, h.id, h.f, hv, h.c, ports6 h, decide_eq_false (show ¬ (b.2.1.length : Int) > 10 by omega)]; rfl
theorem beq_flip {α : Type} [BEq α] [LawfulBEq α] (a b : α) : (a == b) = (b == a) := by
  by_cases h : a = b
  · subst h; rfl
  · rw [beq_eq_false_iff_ne.2 h, beq_eq_false_iff_ne.2 (Ne.symm h)]

end Go.V.W
