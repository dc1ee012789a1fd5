/- The law FnExactIdle: part of the proof that for every input it returns true. No condition. -/
import Derived.Test.YtloainegonlibaaIdle
import Derived.Test.YtloainegonlibaaV3
namespace Go.V.W
set_option linter.unusedVariables false
abbrev M : Nat := 1048576
abbrev In (left : Int) : Prop := 0 ≤ left ∧ left ≤ 1048576
theorem In.next {left r : Int} (h : In left) (h1 : 0 ≤ r) (h2 : r ≤ left) : In r := ⟨h1, by have := h.2; omega⟩
theorem le32 {n : Nat} (h : n ≤ M) : n ≤ 4294967295 := Nat.le_trans h (by decide)
/-! ### room -/
theorem szIntS {a : List Int} {left : Int} (hl : In left) (h : a.length ≤ maxLen) : Room left (laws_szIntS a left) (a.length ≤ M) := room_slice hl h
theorem szByteS {a : List Int} {left : Int} (hl : In left) (h : a.length ≤ maxLen) : Room left (laws_szByteS a left) (a.length ≤ M) := room_slice hl h
theorem szPtS {a : List Pt} {left : Int} (hl : In left) (h : a.length ≤ maxLen) : Room left (laws_szPtS a left) (a.length ≤ M) := room_slice hl h
theorem szFentS {a : List Fent} {left : Int} (hl : In left) (h : a.length ≤ maxLen) : Room left (laws_szFentS a left) (a.length ≤ M) := room_slice hl h
theorem szVrowS {a : List Vrow} {left : Int} (hl : In left) (h : a.length ≤ maxLen) : Room left (laws_szVrowS a left) (a.length ≤ M) := room_slice hl h
theorem szVtab {a : Vtab} {left : Int} (hl : In left) (h : a.1.length ≤ maxLen ∧ a.2.length ≤ maxLen) : Room left (laws_szVtab a left) (a.1.length ≤ M ∧ a.2.length ≤ M ∧ True) :=
  room_bind (szVrowS hl h.1) fun r h1 h2 => room_bind (szIntS (hl.next h1 h2) h.2) fun r h1 h2 => room_some h1
/-- The slices of a bridge. -/
def BLe (n : Nat) (b : Bridge) : Prop := b.2.1.length ≤ n ∧ b.2.2.1.length ≤ n ∧ b.2.2.2.1.length ≤ n ∧ b.2.2.2.2.1.length ≤ n ∧ b.2.2.2.2.2.1.length ≤ n
theorem szBridge {b : Bridge} {left : Int} (hl : In left) (h : BLe maxLen b) : Room left (laws_szBridge b left) (BLe M b) := by
  obtain ⟨h1, h2, h3, h4, h5⟩ := h
  refine room_imp (room_let hl h1 fun r k1 k2 => room_bind (szPtS (hl.next k1 k2) h2) fun r' k3 k4 => room_bind (szFentS ((hl.next k1 k2).next k3 k4) h3) fun r'' k5 k6 => room_bind (szVtab (a := (b.2.2.2.2.1, b.2.2.2.2.2.1)) (((hl.next k1 k2).next k3 k4).next k5 k6) ⟨h4, h5⟩) fun r3 k7 k8 => room_some k7) ?_
  rintro ⟨a1, a2, a3, ⟨a4, a5, _⟩, _⟩
  exact ⟨a1, a2, a3, a4, a5⟩
def VLe (n : Nat) (v : Val) : Prop := v.2.2.1.length ≤ n ∧ v.2.2.2.length ≤ n
theorem szVal {v : Val} {left : Int} (hl : In left) (h : VLe maxLen v) : Room left (laws_szVal v left) (VLe M v) :=
  room_imp (room_let hl h.1 fun r k1 k2 => room_bind (szIntS (hl.next k1 k2) h.2) fun r' k3 k4 => room_some k3) fun ⟨a, b, _⟩ => ⟨a, b⟩
def XLe (n : Nat) (x : Bind) : Prop := x.1.length ≤ n ∧ VLe n x.2
theorem szBind {x : Bind} {left : Int} (hl : In left) (h : XLe maxLen x) : Room left (laws_szBind x left) (XLe M x) :=
  room_imp (room_bind (szIntS hl h.1) fun r k1 k2 => room_bind (szVal (hl.next k1 k2) h.2) fun r' k3 k4 => room_some k3) fun ⟨a, b, _⟩ => ⟨a, b⟩
def XsLe (n : Nat) (l : List Bind) : Prop := l.length ≤ n ∧ ∀ x ∈ l, XLe n x
theorem szBindS {l : List Bind} {left : Int} (hl : In left) (h : XsLe maxLen l) : Room left (laws_szBindS l left) (XsLe M l) := by
  have hn : l.length ≤ 9223372036854775807 := h.1
  show Room left (let l1 := w64 (left - (l.length : Int)); cond (decide (l1 < 0)) (some (-1)) ((loop (fun z => laws_szBindS_l0 l z.1 z.2) (l1, 0)).bind (Sum.elim (fun d => some d) (fun r => some r)))) _
  by_cases hle : l.length ≤ M
  · exact room_imp (room_let hl h.1 fun r k1 k2 => room_loop (f := laws_szBind) (Q := XLe M) (fun x hx l' h1 h2 => szBind ⟨h1, h2⟩ (h.2 x hx)) (le32 hle) (hl.next k1 k2)) fun ⟨a, b⟩ => ⟨a, b⟩
  · refine ⟨-1, ?_, .inl rfl⟩
    show cond (decide (w64 (left - (l.length : Int)) < 0)) _ _ = _
    have : M < l.length := by omega
    have hM : (1048576 : Int) < (l.length : Int) := by have : 1048576 < l.length := this; omega
    have := hl.2
    rw [w64_id (by omega) (by omega), dlt (by omega), cond_true]
def PLe (n : Nat) (p : Pdu) : Prop := XsLe n p.2.2.2.2
theorem szPdu {p : Pdu} {left : Int} (hl : In left) (h : PLe maxLen p) : Room left (laws_szPdu p left) (PLe M p) :=
  room_imp (room_bind (szBindS hl h) fun r k1 k2 => room_some k1) fun ⟨a, _⟩ => a
/-- A job's request, and its bridge. -/
def jP (j : Job) : Pdu := (j.2.2.2.1, j.2.2.2.2.1, j.2.2.2.2.2.1, j.2.2.2.2.2.2.1, j.2.2.2.2.2.2.2.1)
def jB (a0 : Job) : Bridge := (a0.2.2.2.2.2.2.2.2.1, a0.2.2.2.2.2.2.2.2.2.1, a0.2.2.2.2.2.2.2.2.2.2.1, a0.2.2.2.2.2.2.2.2.2.2.2.1, a0.2.2.2.2.2.2.2.2.2.2.2.2.1, a0.2.2.2.2.2.2.2.2.2.2.2.2.2.1, a0.2.2.2.2.2.2.2.2.2.2.2.2.2.2.1, a0.2.2.2.2.2.2.2.2.2.2.2.2.2.2.2.1, a0.2.2.2.2.2.2.2.2.2.2.2.2.2.2.2.2.1, a0.2.2.2.2.2.2.2.2.2.2.2.2.2.2.2.2.2.1, a0.2.2.2.2.2.2.2.2.2.2.2.2.2.2.2.2.2.2.1)
def JLe (n : Nat) (j : Job) : Prop := j.2.1.length ≤ n ∧ PLe n (jP j) ∧ BLe n (jB j)
theorem szJob {j : Job} {left : Int} (hl : In left) (h : JLe maxLen j) : Room left (laws_szJob j left) (JLe M j) :=
  room_imp (room_bind (szByteS hl h.1) fun r k1 k2 => room_bind (szPdu (p := jP j) (hl.next k1 k2) h.2.1) fun r' k3 k4 => room_bind (szBridge (b := jB j) ((hl.next k1 k2).next k3 k4) h.2.2) fun r'' k5 k6 => room_some k5) fun ⟨a, b, c, _⟩ => ⟨a, b, c⟩
def JsLe (n : Nat) (l : List Job) : Prop := l.length ≤ n ∧ ∀ x ∈ l, JLe n x
theorem szJobS {l : List Job} {left : Int} (hl : In left) (h : JsLe maxLen l) : Room left (laws_szJobS l left) (JsLe M l) := by
  have hn : l.length ≤ 9223372036854775807 := h.1
  show Room left (let l1 := w64 (left - (l.length : Int)); cond (decide (l1 < 0)) (some (-1)) ((loop (fun z => laws_szJobS_l0 l z.1 z.2) (l1, 0)).bind (Sum.elim (fun d => some d) (fun r => some r)))) _
  by_cases hle : l.length ≤ M
  · exact room_imp (room_let hl h.1 fun r k1 k2 => room_loop (f := laws_szJob) (Q := JLe M) (fun x hx l' h1 h2 => szJob ⟨h1, h2⟩ (h.2 x hx)) (le32 hle) (hl.next k1 k2)) fun ⟨a, b⟩ => ⟨a, b⟩
  · refine ⟨-1, ?_, .inl rfl⟩
    show cond (decide (w64 (left - (l.length : Int)) < 0)) _ _ = _
    have : M < l.length := by omega
    have hM : (1048576 : Int) < (l.length : Int) := by have : 1048576 < l.length := this; omega
    have := hl.2
    rw [w64_id (by omega) (by omega), dlt (by omega), cond_true]
def aB (a0 : Agent) : Bridge := (a0.1, a0.2.1, a0.2.2.1, a0.2.2.2.1, a0.2.2.2.2.1, a0.2.2.2.2.2.1, a0.2.2.2.2.2.2.1, a0.2.2.2.2.2.2.2.1, a0.2.2.2.2.2.2.2.2.1, a0.2.2.2.2.2.2.2.2.2.1, a0.2.2.2.2.2.2.2.2.2.2.1)
def ALe (n : Nat) (a : Agent) : Prop := BLe n (aB a) ∧ a.2.2.2.2.2.2.2.2.2.2.2.1.length ≤ n ∧ JsLe n a.2.2.2.2.2.2.2.2.2.2.2.2.1
theorem szAgent {a : Agent} {left : Int} (hl : In left) (h : ALe maxLen a) : Room left (laws_szAgent a left) (ALe M a) :=
  room_imp (room_bind (szBridge (b := aB a) hl h.1) fun r k1 k2 => room_let (hl.next k1 k2) h.2.1 fun r' k3 k4 => room_bind (szJobS ((hl.next k1 k2).next k3 k4) h.2.2) fun r'' k5 k6 => room_some k5) fun ⟨a, b, c, _⟩ => ⟨a, b, c⟩
/-! ### copies -/
theorem toIntS {a : List Int} (h : a.length ≤ M) : laws_toIntS a = some a := toS_of (le32 h) (to_loop' (le32 h) 0)
theorem toByteS {a : List Int} (h : a.length ≤ M) : laws_toByteS a = some a := toS_of (le32 h) (to_loop' (le32 h) 0)
theorem toPtS {a : List Pt} (h : a.length ≤ M) : laws_toPtS a = some a := toS_of (le32 h) (to_loop (f := laws_toPt) (fun _ _ => rfl) (le32 h) _)
theorem toFentS {a : List Fent} (h : a.length ≤ M) : laws_toFentS a = some a := toS_of (le32 h) (to_loop (f := laws_toFent) (fun _ _ => rfl) (le32 h) _)
theorem toVrowS {a : List Vrow} (h : a.length ≤ M) : laws_toVrowS a = some a := toS_of (le32 h) (to_loop (f := laws_toVrow) (fun _ _ => rfl) (le32 h) _)
theorem toVtab {a : Vtab} (h : a.1.length ≤ M ∧ a.2.length ≤ M) : laws_toVtab a = some a := by
  unfold laws_toVtab
  rw [toVrowS h.1, Option.bind_some, toIntS h.2, Option.bind_some]
theorem toBridge {b : Bridge} (h : BLe M b) : laws_toBridge b = some b := by
  obtain ⟨h1, h2, h3, h4, h5⟩ := h
  unfold laws_toBridge
  rw [toPtS h2, Option.bind_some, toFentS h3, Option.bind_some, toVtab ⟨h4, h5⟩, Option.bind_some]
theorem toVal {v : Val} (h : VLe M v) : laws_toVal v = some v := by
  unfold laws_toVal
  rw [toIntS h.2, Option.bind_some]
theorem toBind {x : Bind} (h : XLe M x) : laws_toBind x = some x := by
  unfold laws_toBind
  rw [toIntS h.1, Option.bind_some, toVal h.2, Option.bind_some]
theorem toBindS {l : List Bind} (h : XsLe M l) : laws_toBindS l = some l := toS_of (le32 h.1) (to_loop (f := laws_toBind) (fun x hx => toBind (h.2 x hx)) (le32 h.1) _)
theorem toPdu {p : Pdu} (h : PLe M p) : laws_toPdu p = some p := by
  unfold laws_toPdu
  rw [toBindS h, Option.bind_some]
theorem toJob {j : Job} (h : JLe M j) : laws_toJob j = some j := by
  unfold laws_toJob
  rw [toByteS h.1, Option.bind_some, show laws_toPdu (j.2.2.2.1, j.2.2.2.2.1, j.2.2.2.2.2.1, j.2.2.2.2.2.2.1, j.2.2.2.2.2.2.2.1) = some (jP j) from toPdu h.2.1, Option.bind_some]
  have := toBridge h.2.2
  unfold jB at this
  rw [this, Option.bind_some]
  rfl
theorem toJobS {l : List Job} (h : JsLe M l) : laws_toJobS l = some l := toS_of (le32 h.1) (to_loop (f := laws_toJob) (fun x hx => toJob (h.2 x hx)) (le32 h.1) _)
theorem toAgent {a : Agent} (h : ALe M a) : laws_toAgent a = some a := by
  unfold laws_toAgent
  have := toBridge h.1
  unfold aB at this
  rw [this, Option.bind_some, toJobS h.2.2, Option.bind_some]
/-! ### the same -/
theorem eqVec (v : Vec) : laws_eqVec v v = some true := by unfold laws_eqVec; simp
theorem eqPt (v : Pt) : laws_eqPt v v = some true := by unfold laws_eqPt; simp [eqVec]
theorem eqFent (v : Fent) : laws_eqFent v v = some true := by unfold laws_eqFent; simp
theorem eqVrow (v : Vrow) : laws_eqVrow v v = some true := by unfold laws_eqVrow; simp
theorem eqIntS {a : List Int} (h : a.length ≤ M) : laws_eqIntS a a = some true := eqS_of (eq_loop' (le32 h))
theorem eqByteS {a : List Int} (h : a.length ≤ M) : laws_eqByteS a a = some true := eqS_of (eq_loop' (le32 h))
theorem eqPtS {a : List Pt} (h : a.length ≤ M) : laws_eqPtS a a = some true := eqS_of (eq_loop (g := laws_eqPt) (fun x _ => eqPt x) (le32 h))
theorem eqFentS {a : List Fent} (h : a.length ≤ M) : laws_eqFentS a a = some true := eqS_of (eq_loop (g := laws_eqFent) (fun x _ => eqFent x) (le32 h))
theorem eqVrowS {a : List Vrow} (h : a.length ≤ M) : laws_eqVrowS a a = some true := eqS_of (eq_loop (g := laws_eqVrow) (fun x _ => eqVrow x) (le32 h))
theorem eqVtab {a : Vtab} (h : a.1.length ≤ M ∧ a.2.length ≤ M) : laws_eqVtab a a = some true := by
  unfold laws_eqVtab; simp [eqVrowS h.1, eqIntS h.2]
theorem eqBridge {b : Bridge} (h : BLe M b) : laws_eqBridge b b = some true := by
  obtain ⟨h1, h2, h3, h4, h5⟩ := h
  unfold laws_eqBridge
  simp [eqPtS h2, eqFentS h3, eqVtab (a := (b.2.2.2.2.1, b.2.2.2.2.2.1)) ⟨h4, h5⟩]
theorem eqVal {v : Val} (h : VLe M v) : laws_eqVal v v = some true := by
  unfold laws_eqVal; simp [eqIntS h.2]
theorem eqBind {x : Bind} (h : XLe M x) : laws_eqBind x x = some true := by
  unfold laws_eqBind; simp [eqIntS h.1, eqVal h.2]
theorem eqBindS {l : List Bind} (h : XsLe M l) : laws_eqBindS l l = some true := eqS_of (eq_loop (g := laws_eqBind) (fun x hx => eqBind (h.2 x hx)) (le32 h.1))
theorem eqPdu {p : Pdu} (h : PLe M p) : laws_eqPdu p p = some true := by
  unfold laws_eqPdu; simp [eqBindS (l := p.2.2.2.2) h]
theorem eqJob {j : Job} (h : JLe M j) : laws_eqJob j j = some true := by
  have h2 := eqPdu h.2.1
  have h3 := eqBridge h.2.2
  unfold jP at h2
  unfold jB at h3
  unfold laws_eqJob
  simp [eqByteS h.1, h2, h3]
theorem eqJobS {l : List Job} (h : JsLe M l) : laws_eqJobS l l = some true := eqS_of (eq_loop (g := laws_eqJob) (fun x hx => eqJob (h.2 x hx)) (le32 h.1))
theorem eqAgent {a : Agent} (h : ALe M a) : laws_eqAgent a a = some true := by
  have h1 := eqBridge h.1
  unfold aB at h1
  unfold laws_eqAgent
  simp [h1, eqJobS h.2.2]
end Go.V.W
