/- The law FnExactPduText: part of the proof that for every input it returns true. No condition. -/
import Derived.KernelRfl
import Derived.Test.YtpfjdhdmkacnbaaDoorFnExactPduText
import Derived.Test.YtpfjdhdmkacnbaaDoorV4
namespace Go.V.W
set_option linter.unusedVariables false
set_option linter.unusedSimpArgs false
set_option linter.unusedVariables false
abbrev M : Nat := 1048576
abbrev In (left : Int) : Prop := 0 ≤ left ∧ left ≤ 1048576
theorem In.next {left r : Int} (h : In left) (h1 : 0 ≤ r) (h2 : r ≤ left) : In r := ⟨h1, by have := h.2; omega⟩
theorem le32 {n : Nat} (h : n ≤ M) : n ≤ 4294967295 := Nat.le_trans h (by decide)
theorem szIntS {a : List Int} {left : Int} (hl : In left) (h : a.length ≤ maxLen) : Room left (laws_szIntS a left) (a.length ≤ M) := room_slice hl h
def VLe (n : Nat) (v : Val) : Prop := v.2.2.1.length ≤ n ∧ v.2.2.2.length ≤ n
theorem szVal {v : Val} {left : Int} (hl : In left) (h : VLe maxLen v) : Room left (laws_szVal v left) (VLe M v) :=
  room_imp (room_let hl h.1 fun r k1 k2 => room_bind (szIntS (hl.next k1 k2) h.2) fun r' k3 k4 => room_some k3) fun ⟨a, b, _⟩ => ⟨a, b⟩
def XLe (n : Nat) (x : Bind) : Prop := x.1.length ≤ n ∧ VLe n x.2
theorem szBind {x : Bind} {left : Int} (hl : In left) (h : XLe maxLen x) : Room left (laws_szBind x left) (XLe M x) :=
  room_imp (room_bind (szIntS hl h.1) fun r k1 k2 => room_bind (szVal (hl.next k1 k2) h.2) fun r' k3 k4 => room_some k3) fun ⟨a, b, _⟩ => ⟨a, b⟩
def XsLe (n : Nat) (l : List Bind) : Prop := l.length ≤ n ∧ ∀ x ∈ l, XLe n x
theorem szBindS {l : List Bind} {left : Int} (hl : In left) (h : XsLe maxLen l) : Room left (laws_szBindS l left) (XsLe M l) := by
  have hn : l.length ≤ 9223372036854775807 := h.1
  show Room left (let l1 := w64 (left - (l.length : Int)); cond (decide (l1 < 0)) (some (-1)) ((loop (fun z => laws_szBindS_l0 l z.1 z.2) (l1, 0)).bind (Sum.elim (fun d => some d) (fun r => some r)))) _
  by_cases hle : l.length ≤ M
  · exact room_imp (room_let hl h.1 fun r k1 k2 => room_loop (f := laws_szBind) (Q := XLe M) (fun x hx l' h1 h2 => szBind ⟨h1, h2⟩ (h.2 x hx)) (le32 hle) (hl.next k1 k2)) fun ⟨a, b⟩ => ⟨a, b⟩
  · refine ⟨-1, ?_, .inl rfl⟩
    show cond (decide (w64 (left - (l.length : Int)) < 0)) _ _ = _
    have : M < l.length := by omega
    have hM : (1048576 : Int) < (l.length : Int) := by have : 1048576 < l.length := this; omega
    have := hl.2
    rw [w64_id (by omega) (by omega), dlt (by omega), cond_true]
def PLe (n : Nat) (p : Pdu) : Prop := XsLe n p.2.2.2.2
theorem szPdu {p : Pdu} {left : Int} (hl : In left) (h : PLe maxLen p) : Room left (laws_szPdu p left) (PLe M p) :=
  room_imp (room_bind (szBindS hl h) fun r k1 k2 => room_some k1) fun ⟨a, _⟩ => a
theorem toIntS {a : List Int} (h : a.length ≤ M) : laws_toIntS a = some a := toS_of (le32 h) (to_loop' (le32 h) 0)
theorem toVal {v : Val} (h : VLe M v) : laws_toVal v = some v := by
  unfold laws_toVal
  rw [toIntS h.2, Option.bind_some]
theorem toBind {x : Bind} (h : XLe M x) : laws_toBind x = some x := by
  unfold laws_toBind
  rw [toIntS h.1, Option.bind_some, toVal h.2, Option.bind_some]
theorem toBindS {l : List Bind} (h : XsLe M l) : laws_toBindS l = some l := toS_of (le32 h.1) (to_loop (f := laws_toBind) (fun x hx => toBind (h.2 x hx)) (le32 h.1) _)
theorem toPdu {p : Pdu} (h : PLe M p) : laws_toPdu p = some p := by
  unfold laws_toPdu
  rw [toBindS h, Option.bind_some]
theorem eqIntS {a : List Int} (h : a.length ≤ M) : laws_eqIntS a a = some true := eqS_of (eq_loop' (le32 h))
theorem eqVal {v : Val} (h : VLe M v) : laws_eqVal v v = some true := by
  unfold laws_eqVal; simp [eqIntS h.2]
theorem eqBind {x : Bind} (h : XLe M x) : laws_eqBind x x = some true := by
  unfold laws_eqBind; simp [eqIntS h.1, eqVal h.2]
theorem eqBindS {l : List Bind} (h : XsLe M l) : laws_eqBindS l l = some true := eqS_of (eq_loop (g := laws_eqBind) (fun x hx => eqBind (h.2 x hx)) (le32 h.1))
theorem eqPdu {p : Pdu} (h : PLe M p) : laws_eqPdu p p = some true := by
  unfold laws_eqPdu; simp [eqBindS (l := p.2.2.2.2) h]
set_option linter.unusedVariables false
set_option linter.unusedSimpArgs false
theorem loop_ext {α β : Type} {f g : α → Option (α ⊕ β)} (h : ∀ x, f x = g x) (x : α) : loop f x = loop g x := by rw [funext h]
def pIn (x a b : Int) : Bool := decide (x ≥ a) && decide (x ≤ b)
theorem inT (x a b : Int) : impl_in x a b = some (pIn x a b) := by
  unfold impl_in pIn
  cases decide (x ≥ a) <;> rfl
theorem inS (x a b : Int) : spec_l1In x a b = some (pIn x a b) := inT x a b
theorem all_loop {n : Nat} {c : Int → Option Bool} {b : Nat → Bool} (hn : n < 9223372036854775807) (hc : ∀ k, k < n → c (k : Int) = some (b k)) :
    loop (fun i : Int => cond (decide (i < (n : Int))) ((c i).bind fun t => cond t (some (.inr (.inr false))) (some (.inl (w64 (i + 1))))) (some (.inr (.inl ())))) 0 = some (cond ((List.range n).any b) (Sum.inr false) (Sum.inl ()) : Unit ⊕ Bool) := by
  obtain ⟨v, h1, h2⟩ := loop_inv (β := Unit ⊕ Bool) (step := fun i : Int => cond (decide (i < (n : Int))) ((c i).bind fun t => cond t (some (.inr (.inr false))) (some (.inl (w64 (i + 1))))) (some (.inr (.inl ()))))
    (fun k i => i = (k : Int) ∧ (List.range k).any b = false) n (fun v => v = cond ((List.range n).any b) (Sum.inr false) (Sum.inl ()))
    (fun k i hk ⟨e, ha⟩ => by
      subst e
      have hs : (cond (decide ((k : Int) < (n : Int))) ((c (k : Int)).bind fun t => cond t (some (.inr (.inr false))) (some (.inl (w64 ((k : Int) + 1))))) (some (.inr (.inl ()))) : Option (Int ⊕ (Unit ⊕ Bool))) = cond (b k) (some (.inr (.inr false))) (some (.inl ((k + 1 : Nat) : Int))) := by
        rw [dlt (by omega), cond_true, hc k hk, Option.bind_some, w64_nat (by omega)]
      cases hb : b k with
      | true =>
        refine .inr ⟨.inr false, by rw [hs, hb]; rfl, ?_⟩
        have : (List.range n).any b = true := List.any_eq_true.2 ⟨k, List.mem_range.2 hk, hb⟩
        rw [this]; rfl
      | false =>
        refine .inl ⟨_, by rw [hs, hb]; rfl, rfl, ?_⟩
        rw [List.range_succ, List.any_append, ha]; simp [hb])
    (fun i ⟨e, ha⟩ => by
      subst e
      exact ⟨.inl (), by rw [dnlt (by omega), cond_false], by rw [ha]; rfl⟩) (x := 0) ⟨rfl, rfl⟩
  rw [h1, h2]
set_option linter.unusedVariables false
set_option linter.unusedSimpArgs false
set_option linter.unusedVariables false
set_option linter.unusedSimpArgs false
set_option linter.unusedVariables false
set_option linter.unusedSimpArgs false
set_option linter.unusedVariables false
set_option linter.unusedSimpArgs false
theorem app_big {α : Type} {xs ys : List α} (h : xs.length + ys.length ≤ 4294967296) : app xs ys = some (xs ++ ys) := by
  unfold app
  rw [if_pos (show xs.length + ys.length ≤ maxN from h)]
set_option linter.unusedVariables false
set_option linter.unusedSimpArgs false
def bOid (o : List Int) (k : Nat) : Bool := match o[k]? with | some x => !(pIn x 0 100000) | none => false
def pOid (o : List Int) : Bool := !((List.range o.length).any (bOid o)) && pIn (o.length : Int) 1 10
theorem oidT {o : List Int} (h : o.length < 9223372036854775807) : impl_OidOk o = some (pOid o) := by
  unfold impl_OidOk pOid
  have e : loop (fun z => impl_OidOk_l0 o z) 0 = some (cond ((List.range o.length).any (bOid o)) (Sum.inr false) (Sum.inl ())) := by
    rw [← all_loop (n := o.length) (c := fun i => (at? o i).bind fun x => (impl_in x 0 100000).bind fun t => some (!t)) (b := bOid o) h (fun k hk => by
      simp only [at_nat hk, Option.bind_some, bOid, List.getElem?_eq_getElem hk, inT])]
    refine loop_ext (fun i => ?_) 0
    unfold impl_OidOk_l0
    simp only [Option.bind_assoc, Option.bind_some]
  rw [e, Option.bind_some]
  cases (List.range o.length).any (bOid o) with
  | true => rfl
  | false => simp only [cond_false, Sum.elim_inl, inT, Option.bind_some, Bool.not_false, Bool.true_and]
theorem oidS : spec_OidOk = impl_OidOk := rfl
theorem clipT (n : Int) : ∃ c, spec_l1Clip n = some c ∧ (c == n) = pIn n (-2147483648) 2147483647 := by
  unfold spec_l1Clip pIn
  by_cases h1 : n > 2147483647
  · refine ⟨_, by rw [decide_eq_true h1]; rfl, ?_⟩
    rw [decide_eq_false (show ¬ n ≤ 2147483647 by omega), Bool.and_false]
    exact beq_eq_false_iff_ne.2 (by omega)
  · by_cases h2 : n < -2147483648
    · refine ⟨_, by rw [decide_eq_false h1, decide_eq_true h2]; rfl, ?_⟩
      rw [decide_eq_false (show ¬ n ≥ -2147483648 by omega), Bool.false_and]
      exact beq_eq_false_iff_ne.2 (by omega)
    · refine ⟨_, by rw [decide_eq_false h1, decide_eq_false h2]; rfl, ?_⟩
      rw [decide_eq_true (show n ≥ -2147483648 by omega), decide_eq_true (show n ≤ 2147483647 by omega), beq_self_eq_true]; rfl
theorem sameNil (l : List Int) : impl_SameOid l [] = some ((l.length : Int) == 0) := by
  cases l with
  | nil => exact eqS_of (n := 0) (eq_loop' (a := []) (by decide))
  | cons x l =>
    unfold impl_SameOid
    have e : (((x :: l).length : Int) != (([] : List Int).length : Int)) = true := by simp; omega
    rw [e, cond_true, beq_eq_false_iff_ne.2 (by simp; omega)]
theorem sameSelf {l : List Int} (h : l.length ≤ M) : impl_SameOid l l = some true := eqS_of (eq_loop' (le32 h))
def pVal (v : Val) : Bool :=
  cond (v.1 == 5 || (v.1 == 128 || v.1 == 130)) (v.2.1 == 0 && (v.2.2.1 == [] && ((v.2.2.2.length : Int) == 0)))
    (cond (v.1 == 2) (pIn v.2.1 (-2147483648) 2147483647 && (v.2.2.1 == [] && ((v.2.2.2.length : Int) == 0)))
      (cond (v.1 == 4) (decide ((v.2.2.1.length : Int) ≤ 20) && (v.2.1 == 0 && ((v.2.2.2.length : Int) == 0)))
        (cond (v.1 == 6) (pOid v.2.2.2 && (v.2.1 == 0 && (v.2.2.1 == []))) false)))
theorem valT {v : Val} (h : v.2.2.2.length ≤ M) : impl_ValOk v = some (pVal v) := by
  obtain ⟨k, n, s, o⟩ := v
  have h' : o.length ≤ 1048576 := h
  have ho : o.length ≤ M := h
  have hb : o.length < 9223372036854775807 := by omega
  unfold impl_ValOk pVal impl_SameVal impl_isInt
  simp only [inT, sameNil, sameSelf ho, oidT hb, Option.bind_some]
  by_cases h2 : k = 2
  · subst h2; cases pIn n (-2147483648) 2147483647 <;> cases s == [] <;> cases (o.length : Int) == 0 <;> simp
  by_cases h4 : k = 4
  · subst h4; cases decide ((s.length : Int) ≤ 20) <;> cases n == 0 <;> cases (o.length : Int) == 0 <;> simp
  by_cases h6 : k = 6
  · subst h6; cases pOid o <;> cases n == 0 <;> cases s == [] <;> simp
  rw [beq_eq_false_iff_ne.2 h2, beq_eq_false_iff_ne.2 h4, beq_eq_false_iff_ne.2 h6]
  by_cases h5 : k = 5
  · subst h5; cases n == 0 <;> cases s == [] <;> cases (o.length : Int) == 0 <;> simp
  by_cases h128 : k = 128
  · subst h128; cases n == 0 <;> cases s == [] <;> cases (o.length : Int) == 0 <;> simp
  by_cases h130 : k = 130
  · subst h130; cases n == 0 <;> cases s == [] <;> cases (o.length : Int) == 0 <;> simp
  rw [beq_eq_false_iff_ne.2 h5, beq_eq_false_iff_ne.2 h128, beq_eq_false_iff_ne.2 h130]
  rfl
theorem valS {v : Val} (h : v.2.2.2.length ≤ M) : spec_ValOk v = some (pVal v) := by
  obtain ⟨k, n, s, o⟩ := v
  have h' : o.length ≤ 1048576 := h
  have hb : o.length < 9223372036854775807 := by omega
  obtain ⟨c, hc, hc2⟩ := clipT n
  unfold spec_ValOk pVal
  simp only [oidS, oidT hb, hc, hc2, Option.bind_some]
  by_cases h5 : k = 5
  · subst h5; cases n == 0 <;> cases s == [] <;> cases (o.length : Int) == 0 <;> simp
  by_cases h128 : k = 128
  · subst h128; cases n == 0 <;> cases s == [] <;> cases (o.length : Int) == 0 <;> simp
  by_cases h130 : k = 130
  · subst h130; cases n == 0 <;> cases s == [] <;> cases (o.length : Int) == 0 <;> simp
  rw [beq_eq_false_iff_ne.2 h5, beq_eq_false_iff_ne.2 h128, beq_eq_false_iff_ne.2 h130]
  by_cases h2 : k = 2
  · subst h2; cases pIn n (-2147483648) 2147483647 <;> cases s == [] <;> cases (o.length : Int) == 0 <;> simp
  by_cases h4 : k = 4
  · subst h4; cases decide ((s.length : Int) ≤ 20) <;> cases n == 0 <;> cases (o.length : Int) == 0 <;> simp
  by_cases h6 : k = 6
  · subst h6; cases pOid o <;> cases n == 0 <;> cases s == [] <;> simp
  rw [beq_eq_false_iff_ne.2 h2, beq_eq_false_iff_ne.2 h4, beq_eq_false_iff_ne.2 h6]
  rfl
def xOk (x : Bind) : Bool := pOid x.1 && pVal x.2
def bX (l : List Bind) (k : Nat) : Bool := match l[k]? with | some x => !(xOk x) | none => false
def pPdu (p : Pdu) : Bool :=
  (!((List.range p.2.2.2.2.length).any (bX p.2.2.2.2)) && decide ((p.2.2.2.2.length : Int) ≤ 10)) &&
  (cond (p.1 == 162 || p.1 == 165) (pIn p.2.2.1 0 1000 && pIn p.2.2.2.1 0 1000)
    (cond (p.1 == 160 || (p.1 == 161 || p.1 == 163)) (p.2.2.1 == 0 && p.2.2.2.1 == 0) false) && pIn p.2.1 (-2147483648) 2147483647)
theorem any_or {n : Nat} {f g : Nat → Bool} : (List.range n).any (fun k => f k || g k) = ((List.range n).any f || (List.range n).any g) := by
  generalize List.range n = l
  induction l with
  | nil => rfl
  | cons a l ih => simp only [List.any_cons, ih]; cases f a <;> cases g a <;> simp
theorem any_ten (n : Nat) : (List.range n).any (fun k => decide ((k : Int) ≥ 10)) = !(decide ((n : Int) ≤ 10)) := by
  by_cases h : (n : Int) ≤ 10
  · rw [decide_eq_true h]
    refine Bool.eq_false_iff.2 fun ha => ?_
    obtain ⟨k, h1, h2⟩ := List.any_eq_true.1 ha
    have := List.mem_range.1 h1
    have := of_decide_eq_true h2
    omega
  · rw [decide_eq_false h]
    exact List.any_eq_true.2 ⟨10, List.mem_range.2 (by omega), by decide⟩
theorem pdu_loop {p : Pdu} (h : PLe M p) : loop (fun z => impl_PduOk_l1 p z) 0 = some (cond (!(decide ((p.2.2.2.2.length : Int) ≤ 10)) || (List.range p.2.2.2.2.length).any (bX p.2.2.2.2)) (Sum.inr false) (Sum.inl ())) := by
  obtain ⟨k, i, e, x, l⟩ := p
  have h' : XsLe M l := h
  have hl : l.length ≤ 1048576 := h'.1
  show loop (fun z => impl_PduOk_l1 (k, i, e, x, l) z) 0 = some (cond (!(decide ((l.length : Int) ≤ 10)) || (List.range l.length).any (bX l)) (Sum.inr false) (Sum.inl ()))
  rw [← any_ten, ← any_or, ← all_loop (n := l.length) (c := fun i => (at? l i).bind fun x => (cond (decide (i ≥ 10)) (some true) ((impl_OidOk x.1).bind fun t => some (!t))).bind fun t => (cond t (some true) ((impl_ValOk x.2).bind fun t => some (!t)))) (b := fun k => decide ((k : Int) ≥ 10) || bX l k) (by omega) (fun k hk => by
    have hx : XLe M l[k] := h'.2 _ (List.getElem_mem hk)
    have h1 : l[k].1.length ≤ 1048576 := hx.1
    have h2 : l[k].2.2.2.2.length ≤ M := hx.2.2
    simp only [at_nat hk, Option.bind_some, bX, List.getElem?_eq_getElem hk, oidT (show l[k].1.length < 9223372036854775807 by omega), valT (v := l[k].2) h2, xOk]
    cases decide ((k : Int) ≥ 10) <;> cases pOid l[k].1 <;> cases pVal l[k].2 <;> rfl)]
  refine loop_ext (fun i => ?_) 0
  unfold impl_PduOk_l1
  simp only [Option.bind_assoc, Option.bind_some]
theorem pdu_loopS {p : Pdu} (h : PLe M p) : loop (fun z => spec_PduOk_l0 p z) 0 = some (cond ((List.range p.2.2.2.2.length).any (bX p.2.2.2.2)) (Sum.inr false) (Sum.inl ())) := by
  obtain ⟨k, i, e, x, l⟩ := p
  have h' : XsLe M l := h
  have hl : l.length ≤ 1048576 := h'.1
  show loop (fun z => spec_PduOk_l0 (k, i, e, x, l) z) 0 = some (cond ((List.range l.length).any (bX l)) (Sum.inr false) (Sum.inl ()))
  rw [← all_loop (n := l.length) (c := fun i => (at? l i).bind fun x => (spec_OidOk x.1).bind fun t => (cond (!t) (some true) ((at? l i).bind fun x => (spec_ValOk x.2).bind fun t => some (!t)))) (b := bX l) (by omega) (fun k hk => by
    have hx : XLe M l[k] := h'.2 _ (List.getElem_mem hk)
    have h1 : l[k].1.length ≤ 1048576 := hx.1
    have h2 : l[k].2.2.2.2.length ≤ M := hx.2.2
    simp only [at_nat hk, Option.bind_some, bX, List.getElem?_eq_getElem hk, oidS, oidT (show l[k].1.length < 9223372036854775807 by omega), valS (v := l[k].2) h2, xOk]
    cases pOid l[k].1 <;> cases pVal l[k].2 <;> rfl)]
  refine loop_ext (fun i => ?_) 0
  unfold spec_PduOk_l0
  simp only [Option.bind_assoc, Option.bind_some]
theorem pduT {p : Pdu} (h : PLe M p) : impl_PduOk p = some (pPdu p) := by
  have e0 := pdu_loop h
  have e1 : loop (fun z => impl_PduOk_l1_1 p z) 0 = _ := e0
  have e2 : loop (fun z => impl_PduOk_l1_2 p z) 0 = _ := e0
  have e3 : loop (fun z => impl_PduOk_l1_3 p z) 0 = _ := e0
  have e4 : loop (fun z => impl_PduOk_l1_4 p z) 0 = _ := e0
  have e5 : loop (fun z => impl_PduOk_l1_5 p z) 0 = _ := e0
  have e6 : loop (fun z => impl_PduOk_l1_6 p z) 0 = _ := e0
  have e7 : loop (fun z => impl_PduOk_l1_7 p z) 0 = _ := e0
  have e8 : loop (fun z => impl_PduOk_l1_8 p z) 0 = _ := e0
  unfold impl_PduOk pPdu impl_isInt
  rw [e0, e1, e2, e3, e4, e5, e6, e7, e8]
  simp only [inT, Option.bind_some]
  generalize (List.range p.2.2.2.2.length).any (bX p.2.2.2.2) = u
  generalize decide ((p.2.2.2.2.length : Int) ≤ 10) = w
  generalize pIn p.2.1 (-2147483648) 2147483647 = x
  generalize p.2.2.1 = e
  generalize p.2.2.2.1 = i
  generalize p.1 = k
  by_cases h0 : k = 160
  · subst h0
    have b1 : (e != 0) = !(e == 0) := rfl
    have b2 : (i != 0) = !(i == 0) := rfl
    rw [b1, b2]
    cases e == 0 <;> cases i == 0 <;> cases u <;> cases w <;> cases x <;> rfl
  by_cases h1 : k = 161
  · subst h1
    have b1 : (e != 0) = !(e == 0) := rfl
    have b2 : (i != 0) = !(i == 0) := rfl
    rw [b1, b2]
    cases e == 0 <;> cases i == 0 <;> cases u <;> cases w <;> cases x <;> rfl
  by_cases h3 : k = 163
  · subst h3
    have b1 : (e != 0) = !(e == 0) := rfl
    have b2 : (i != 0) = !(i == 0) := rfl
    rw [b1, b2]
    cases e == 0 <;> cases i == 0 <;> cases u <;> cases w <;> cases x <;> rfl
  by_cases h2 : k = 162
  · subst h2; cases pIn e 0 1000 <;> cases pIn i 0 1000 <;> cases u <;> cases w <;> cases x <;> rfl
  by_cases h5 : k = 165
  · subst h5; cases pIn e 0 1000 <;> cases pIn i 0 1000 <;> cases u <;> cases w <;> cases x <;> rfl
  rw [beq_eq_false_iff_ne.2 h0, beq_eq_false_iff_ne.2 h1, beq_eq_false_iff_ne.2 h2, beq_eq_false_iff_ne.2 h3, beq_eq_false_iff_ne.2 h5]
  cases u <;> cases w <;> rfl
theorem pduS {p : Pdu} (h : PLe M p) : spec_PduOk p = some (pPdu p) := by
  obtain ⟨c, hc, hc2⟩ := clipT p.2.1
  unfold spec_PduOk pPdu spec_l4Kind
  rw [pdu_loopS h]
  simp only [inS, hc, hc2, Option.bind_some]
  generalize (List.range p.2.2.2.2.length).any (bX p.2.2.2.2) = u
  generalize decide ((p.2.2.2.2.length : Int) ≤ 10) = w
  generalize pIn p.2.1 (-2147483648) 2147483647 = x
  generalize p.2.2.1 = e
  generalize p.2.2.2.1 = i
  generalize p.1 = k
  have b1 : (e != 0) = !(e == 0) := rfl
  have b2 : (i != 0) = !(i == 0) := rfl
  rw [b1, b2]
  have z1 : (e == 0) = true → pIn e 0 1000 = true := fun h => by rw [eq_of_beq h]; rfl
  have z2 : (i == 0) = true → pIn i 0 1000 = true := fun h => by rw [eq_of_beq h]; rfl
  by_cases h2 : k = 162
  · subst h2; cases pIn e 0 1000 <;> cases pIn i 0 1000 <;> cases u <;> cases w <;> cases x <;> rfl
  by_cases h5 : k = 165
  · subst h5; cases pIn e 0 1000 <;> cases pIn i 0 1000 <;> cases u <;> cases w <;> cases x <;> rfl
  have n2 : (k != 162) = true := bne_iff_ne.2 h2
  have n5 : (k != 165) = true := bne_iff_ne.2 h5
  rw [n2, n5, beq_eq_false_iff_ne.2 h2, beq_eq_false_iff_ne.2 h5]
  cases he : e == 0 with
  | false => cases hi : i == 0 <;> cases u <;> cases w <;> cases x <;> cases k == 160 <;> cases k == 161 <;> cases k == 163 <;> rfl
  | true =>
    rw [z1 he]
    cases hi : i == 0 with
    | false => cases u <;> cases w <;> cases x <;> cases k == 160 <;> cases k == 161 <;> cases k == 163 <;> rfl
    | true =>
      rw [z2 hi]
      cases u <;> cases w <;> cases x <;> cases k == 160 <;> cases k == 161 <;> cases k == 163 <;> rfl
theorem bind_wf {x : Bind} (h : Cs.wf cBind x) : XLe maxLen x := by
  simp only [cBind, Cs.wf, CT.wf] at h
  exact ⟨h.1.1, h.2.2.2.1, h.2.2.2.2.1⟩
set_option linter.unusedVariables false
set_option linter.unusedSimpArgs false
theorem dec_lt {u : Nat} (h : u < 10) : Lib.decDigits u = [UInt8.ofNat (48 + u)] := by rw [Lib.decDigits, dif_pos h]
theorem dec_ge {u : Nat} (h : ¬ u < 10) : Lib.decDigits u = Lib.decDigits (u / 10) ++ [UInt8.ofNat (48 + u % 10)] := by rw [Lib.decDigits, dif_neg h]
theorem dec_len : ∀ (k u : Nat), u < 10 ^ (k + 1) → (Lib.decDigits u).length ≤ k + 1
  | 0, u, h => by rw [dec_lt (by simpa using h)]; simp
  | k + 1, u, h => by
    by_cases h1 : u < 10
    · rw [dec_lt h1]; simp
    · rw [dec_ge h1, List.length_append]
      have := dec_len k (u / 10) (by rw [Nat.pow_succ] at h; omega)
      simp; omega
theorem itoa_len {n : Int} (h0 : -9223372036854775808 ≤ n) (h1 : n ≤ 9223372036854775807) : (Lib.itoa n).length ≤ 20 := by
  unfold Lib.itoa
  split
  · have := dec_len 18 n.natAbs (by omega)
    simp; omega
  · have := dec_len 18 n.toNat (by omega)
    omega
theorem itoaT {n : Int} (h0 : -9223372036854775808 ≤ n) (h1 : n ≤ 9223372036854775807) : libItoa n = some (Lib.itoa n) := by
  unfold libItoa
  rw [decide_eq_true h0, decide_eq_true h1]; rfl
theorem joinTail_append (sep : List UInt8) (r : List (List UInt8)) (x : List UInt8) : Lib.joinTail sep (r ++ [x]) = Lib.joinTail sep r ++ (sep ++ x) := by
  simp [Lib.joinTail]
theorem join_snoc {xs : List (List UInt8)} (x sep : List UInt8) (h : xs ≠ []) : Lib.join (xs ++ [x]) sep = Lib.join xs sep ++ sep ++ x := by
  cases xs with
  | nil => exact absurd rfl h
  | cons a r => rw [List.cons_append, Lib.join_cons, Lib.join_cons, joinTail_append, List.append_assoc, List.append_assoc]
theorem joinTail_len {sep : List UInt8} {m : Nat} (hs : sep.length ≤ 1) : ∀ {r : List (List UInt8)}, (∀ x ∈ r, x.length ≤ m) → (Lib.joinTail sep r).length ≤ r.length * (m + 1)
  | [], _ => by simp [Lib.joinTail]
  | x :: r, h => by
    have h1 := h x (by simp)
    have h2 := joinTail_len hs (r := r) fun y hy => h y (by simp [hy])
    have e : (Lib.joinTail sep (x :: r)).length = (sep.length + x.length) + (Lib.joinTail sep r).length := by simp [Lib.joinTail, Nat.add_assoc]
    rw [e, List.length_cons, Nat.add_mul]
    omega
theorem join_len {sep : List UInt8} {m : Nat} (hs : sep.length ≤ 1) {xs : List (List UInt8)} (h : ∀ x ∈ xs, x.length ≤ m) : (Lib.join xs sep).length ≤ xs.length * (m + 1) := by
  cases xs with
  | nil => simp [Lib.join_nil]
  | cons x r =>
    rw [Lib.join_cons, List.length_append, List.length_cons, Nat.add_mul]
    have h1 := h x (by simp)
    have h2 := joinTail_len hs (r := r) fun y hy => h y (by simp [hy])
    omega
theorem joinT {xs : List (List UInt8)} {sep : List UInt8} {m : Nat} (hs : sep.length ≤ 1) (h : ∀ x ∈ xs, x.length ≤ m) (hl : xs.length ≤ 1048576) (hm : m ≤ 1000000) : libJoin xs sep = some (Lib.join xs sep) := by
  have h1 := join_len hs h
  have h2 : xs.length * (m + 1) ≤ 1048576 * 1000001 := Nat.mul_le_mul hl (by omega)
  unfold libJoin
  rw [decide_eq_true (by omega), decide_eq_true (by omega)]; rfl
theorem pIn_t {x a b : Int} (h : pIn x a b = true) : a ≤ x ∧ x ≤ b := by
  unfold pIn at h
  rw [Bool.and_eq_true] at h
  exact ⟨of_decide_eq_true h.1, of_decide_eq_true h.2⟩
theorem catT {a b : List UInt8} (h : a.length + b.length ≤ 4294967296) : cat a b = some (a ++ b) := by
  unfold cat maxN
  rw [if_pos h]

set_option linter.unusedVariables false
set_option linter.unusedSimpArgs false
theorem num_digit {u : Nat} (h : u < 10) : bytesOf [IntKind.u8.wrap (w64 (48 + (u : Int)))] = [UInt8.ofNat (48 + u)] := by
  match u, h with
  | 0, _ => rfl
  | 1, _ => rfl
  | 2, _ => rfl
  | 3, _ => rfl
  | 4, _ => rfl
  | 5, _ => rfl
  | 6, _ => rfl
  | 7, _ => rfl
  | 8, _ => rfl
  | 9, _ => rfl
theorem num_nat : ∀ (k u : Nat), u < 10 ^ (k + 1) → u < 9223372036854775808 → spec_l2Num_k (k + 1) (u : Int) = some (Lib.decDigits u)
  | k, u, h, hb => by
    show spec_l2Num_b (spec_l2Num_k k) (u : Int) = _
    unfold spec_l2Num_b
    rw [decide_eq_false (show ¬ (u : Int) < 0 by omega), cond_false]
    by_cases h1 : u < 10
    · rw [decide_eq_true (show (u : Int) < 10 by omega), cond_true, dec_lt h1]
      show some _ = _
      rw [num_digit h1]
    · have e1 : (u : Int).tdiv 10 = ((u / 10 : Nat) : Int) := rfl
      have e2 : (u : Int).tmod 10 = ((u % 10 : Nat) : Int) := rfl
      cases k with
      | zero => exact absurd (by simpa using h) h1
      | succ k =>
        have h2 : u / 10 < 10 ^ (k + 1) := by rw [Nat.pow_succ] at h; omega
        have ih := num_nat k (u / 10) h2 (by omega)
        have hl := dec_len 18 (u / 10) (by omega)
        rw [decide_eq_false (show ¬ (u : Int) < 10 by omega), cond_false, e1, e2, w64_id (by omega) (by omega), ih, Option.bind_some, num_digit (by omega), catT (by simp; omega), Option.bind_some, ← dec_ge h1]
theorem numT {n : Int} (h0 : -9223372036854775808 < n) (h1 : n ≤ 9223372036854775807) : spec_l2Num n = some (Lib.itoa n) := by
  unfold spec_l2Num Lib.itoa
  by_cases h : n < 0
  · obtain ⟨u, rfl⟩ : ∃ u : Nat, n = -(u : Int) := ⟨n.natAbs, by omega⟩
    have hl := dec_len 18 u (by omega)
    rw [if_pos h]
    show spec_l2Num_b (spec_l2Num_k 19) _ = _
    unfold spec_l2Num_b
    rw [decide_eq_true h, cond_true, show (0 : Int) - -(u : Int) = (u : Int) by omega, w64_id (by omega) (by omega), num_nat 18 u (by omega) (by omega), Option.bind_some, catT (by simp; omega), Option.bind_some, Int.natAbs_neg, Int.natAbs_natCast]
    rfl
  · obtain ⟨u, rfl⟩ : ∃ u : Nat, n = (u : Int) := ⟨n.toNat, by omega⟩
    rw [if_neg h, num_nat 19 u (by omega) (by omega), Int.toNat_natCast]
def oidX (o : List Int) : List UInt8 := Lib.join (o.map Lib.itoa) [46]
theorem oid_range {o : List Int} (h : pOid o = true) : o.length ≤ 10 ∧ ∀ x ∈ o, 0 ≤ x ∧ x ≤ 100000 := by
  unfold pOid at h
  rw [Bool.and_eq_true, Bool.not_eq_true'] at h
  have h1 := pIn_t h.2
  refine ⟨by omega, fun x hx => ?_⟩
  obtain ⟨k, hk, rfl⟩ := List.getElem_of_mem hx
  have := List.any_eq_false.1 h.1 k (List.mem_range.2 hk)
  unfold bOid at this
  simp only [List.getElem?_eq_getElem hk] at this
  cases hp : pIn o[k] 0 100000 with
  | true => exact pIn_t hp
  | false => rw [hp] at this; exact absurd rfl this
theorem oid_words {o : List Int} (h : pOid o = true) : ∀ x ∈ o.map Lib.itoa, x.length ≤ 20 := by
  intro x hx
  obtain ⟨n, hn, rfl⟩ := List.mem_map.1 hx
  have := (oid_range h).2 n hn
  exact itoa_len (by omega) (by omega)
theorem oidX_len {o : List Int} (h : pOid o = true) : (oidX o).length ≤ 210 := by
  have h1 := join_len (sep := [46]) (by simp) (oid_words h)
  have h2 := (oid_range h).1
  rw [List.length_map] at h1
  have : o.length * (20 + 1) ≤ 10 * 21 := Nat.mul_le_mul_right _ h2
  unfold oidX; omega
theorem take_snoc {α : Type} {l : List α} {k : Nat} (h : k < l.length) : l.take (k + 1) = l.take k ++ [l[k]] := by
  rw [List.take_add_one, List.getElem?_eq_getElem h]; rfl
theorem oidTextT {o : List Int} (h : o.length ≤ M) : impl_OidText o = some (cond (pOid o) (oidX o) []) := by
  have h' : o.length ≤ 1048576 := h
  unfold impl_OidText
  rw [oidT (by omega), Option.bind_some]
  cases hp : pOid o with
  | false => rfl
  | true =>
    have hr := (oid_range hp).2
    obtain ⟨d, d1, rfl⟩ := loop_inv (step := fun z : Int × List (List UInt8) => impl_OidText_l0 o z.1 z.2) (fun k z => z = ((k : Int), (o.take k).map Lib.itoa)) o.length (fun d => d = o.map Lib.itoa)
      (fun k z hk hz => by
        subst hz
        refine .inl ⟨_, ?_, rfl⟩
        have hx := hr o[k] (List.getElem_mem hk)
        show impl_OidText_l0 o (k : Int) _ = _
        unfold impl_OidText_l0
        rw [dlt (by omega), cond_true, at_nat hk, Option.bind_some, itoaT (by omega) (by omega), Option.bind_some, app_big (by simp; omega), Option.bind_some, w64_nat (by omega), take_snoc hk, List.map_append]
        rfl)
      (fun z hz => by
        subst hz
        refine ⟨o.map Lib.itoa, ?_, rfl⟩
        show impl_OidText_l0 o (o.length : Int) _ = _
        unfold impl_OidText_l0
        rw [dnlt (by omega), cond_false, List.take_length])
      (x := (0, [])) (by simp)
    rw [Bool.not_true, cond_false, d1, Option.bind_some, joinT (m := 20) (by simp) (oid_words hp) (by rw [List.length_map]; exact h') (by omega), Option.bind_some]
    rfl
theorem oidTextS {o : List Int} (h : o.length ≤ M) : spec_OidText o = some (cond (pOid o) (oidX o) []) := by
  have h' : o.length ≤ 1048576 := h
  unfold spec_OidText
  rw [oidS, oidT (by omega), Option.bind_some]
  cases hp : pOid o with
  | false => rfl
  | true =>
    have hr := (oid_range hp).2
    have hw : ∀ k, (Lib.join ((o.take k).map Lib.itoa) [46]).length ≤ 210 := fun k => by
      have h1 := join_len (sep := [46]) (m := 20) (xs := (o.take k).map Lib.itoa) (by simp) fun x hx => oid_words hp x (by
        obtain ⟨n, hn, rfl⟩ := List.mem_map.1 hx
        exact List.mem_map_of_mem (List.mem_of_mem_take hn))
      have h2 := (oid_range hp).1
      rw [List.length_map, List.length_take] at h1
      have : min k o.length * (20 + 1) ≤ 10 * 21 := Nat.mul_le_mul_right _ (by omega)
      omega
    obtain ⟨d, d1, rfl⟩ := loop_inv (step := fun z : List UInt8 × Int => spec_OidText_l0 o z.1 z.2) (fun k z => z = (Lib.join ((o.take k).map Lib.itoa) [46], (k : Int))) o.length (fun d => d = oidX o)
      (fun k z hk hz => by
        subst hz
        refine .inl ⟨_, ?_, rfl⟩
        have hx := hr o[k] (List.getElem_mem hk)
        have hl := itoa_len (n := o[k]) (by omega) (by omega)
        have hk1 := hw k
        show spec_OidText_l0 o (Lib.join ((o.take k).map Lib.itoa) [46]) (k : Int) = _
        unfold spec_OidText_l0
        rw [dlt (by omega), cond_true]
        cases k with
        | zero =>
          rw [decide_eq_false (show ¬ ((0 : Nat) : Int) > 0 by omega), cond_false, at_nat hk, Option.bind_some, numT (by omega) (by omega), Option.bind_some, catT (by simp [Lib.join_nil]; omega), Option.bind_some, w64_nat (by omega), take_snoc hk]
          simp [Lib.join_nil, Lib.join_one]
        | succ k =>
          have hne : (o.take (k + 1)).map Lib.itoa ≠ [] := by
            intro e
            have := congrArg List.length e
            rw [List.length_map, List.length_take, List.length_nil] at this; omega
          rw [decide_eq_true (show ((k + 1 : Nat) : Int) > 0 by omega), cond_true, catT (by rw [List.length_singleton]; omega), Option.bind_some, at_nat hk, Option.bind_some, numT (by omega) (by omega), Option.bind_some, catT (by rw [List.length_append, List.length_singleton]; omega), Option.bind_some, w64_nat (by omega), take_snoc hk, List.map_append]
          show _ = some (Sum.inl (Lib.join ((o.take (k + 1)).map Lib.itoa ++ [Lib.itoa o[k + 1]]) [46], _))
          rw [join_snoc _ _ hne])
      (fun z hz => by
        subst hz
        refine ⟨oidX o, ?_, rfl⟩
        show spec_OidText_l0 o _ (o.length : Int) = _
        unfold spec_OidText_l0
        rw [dnlt (by omega), cond_false, List.take_length]; rfl)
      (x := ([], 0)) (by simp [Lib.join_nil])
    rw [Bool.not_true, cond_false, d1, Option.bind_some]
    rfl
def valX (v : Val) : List UInt8 :=
  cond (pVal v) (cond (v.1 == 5) [110, 117, 108, 108] (cond (v.1 == 2) (Lib.itoa v.2.1) (cond (v.1 == 4) ([39] ++ v.2.2.1 ++ [39]) (cond (v.1 == 6) (cond (pOid v.2.2.2) (oidX v.2.2.2) []) (cond (v.1 == 128) [110, 111, 110, 101] [101, 110, 100]))))) []
theorem pVal_kind {v : Val} (h : pVal v = true) : v.1 = 5 ∨ v.1 = 128 ∨ v.1 = 130 ∨ (v.1 = 2 ∧ -2147483648 ≤ v.2.1 ∧ v.2.1 ≤ 2147483647) ∨ (v.1 = 4 ∧ v.2.2.1.length ≤ 20) ∨ (v.1 = 6 ∧ pOid v.2.2.2 = true) := by
  unfold pVal at h
  cases h1 : (v.1 == 5 || (v.1 == 128 || v.1 == 130)) with
  | true =>
    simp only [Bool.or_eq_true, beq_iff_eq] at h1
    rcases h1 with h1 | h1 | h1
    · exact .inl h1
    · exact .inr (.inl h1)
    · exact .inr (.inr (.inl h1))
  | false =>
    rw [h1, cond_false] at h
    cases h2 : v.1 == 2 with
    | true =>
      rw [h2, cond_true] at h
      simp only [Bool.and_eq_true] at h
      have := pIn_t h.1
      exact .inr (.inr (.inr (.inl ⟨by simpa using h2, by omega, by omega⟩)))
    | false =>
      rw [h2, cond_false] at h
      cases h4 : v.1 == 4 with
      | true =>
        rw [h4, cond_true] at h
        simp only [Bool.and_eq_true, decide_eq_true_eq] at h
        exact .inr (.inr (.inr (.inr (.inl ⟨by simpa using h4, by omega⟩))))
      | false =>
        rw [h4, cond_false] at h
        cases h6 : v.1 == 6 with
        | true =>
          rw [h6, cond_true] at h
          simp only [Bool.and_eq_true] at h
          exact .inr (.inr (.inr (.inr (.inr ⟨by simpa using h6, h.1⟩))))
        | false => rw [h6, cond_false] at h; cases h
theorem valTextT {v : Val} (h : VLe M v) : impl_ValText v = some (valX v) := by
  unfold impl_ValText valX
  rw [valT h.2, Option.bind_some]
  cases hp : pVal v with
  | false => rfl
  | true =>
    rw [Bool.not_true, cond_false, cond_true]
    rcases pVal_kind hp with e | e | e | ⟨e, e1, e2⟩ | ⟨e, e1⟩ | ⟨e, e1⟩ <;> rw [e]
    · rfl
    · rfl
    · rfl
    · show (libItoa v.2.1).bind _ = some (Lib.itoa v.2.1)
      rw [itoaT (by omega) (by omega)]; rfl
    · show (cat [39] v.2.2.1).bind _ = some ([39] ++ v.2.2.1 ++ [39])
      rw [catT (by simp; omega), Option.bind_some, catT (by simp; omega)]; rfl
    · show (impl_OidText v.2.2.2).bind _ = some (cond (pOid v.2.2.2) (oidX v.2.2.2) [])
      rw [oidTextT h.2]; rfl
theorem valTextS {v : Val} (h : VLe M v) : spec_ValText v = some (valX v) := by
  unfold spec_ValText valX
  rw [valS h.2, Option.bind_some]
  cases hp : pVal v with
  | false => rfl
  | true =>
    rw [Bool.not_true, cond_false, cond_true]
    rcases pVal_kind hp with e | e | e | ⟨e, e1, e2⟩ | ⟨e, e1⟩ | ⟨e, e1⟩ <;> rw [e]
    · rfl
    · rfl
    · rfl
    · show (spec_l2Num v.2.1).bind _ = some (Lib.itoa v.2.1)
      rw [numT (by omega) (by omega)]; rfl
    · show (cat [39] v.2.2.1).bind _ = some ([39] ++ v.2.2.1 ++ [39])
      rw [catT (by simp; omega), Option.bind_some, catT (by simp; omega)]; rfl
    · show (spec_OidText v.2.2.2).bind _ = some (cond (pOid v.2.2.2) (oidX v.2.2.2) [])
      rw [oidTextS h.2]; rfl
theorem oidc_len (o : List Int) : (cond (pOid o) (oidX o) []).length ≤ 210 := by
  cases hp : pOid o with
  | true => exact oidX_len hp
  | false => simp
theorem valX_len (v : Val) : (valX v).length ≤ 210 := by
  unfold valX
  cases hp : pVal v with
  | false => simp
  | true =>
    rw [cond_true]
    rcases pVal_kind hp with e | e | e | ⟨e, e1, e2⟩ | ⟨e, e1⟩ | ⟨e, e1⟩ <;> rw [e]
    · show ([110, 117, 108, 108] : List UInt8).length ≤ 210; decide
    · show ([110, 111, 110, 101] : List UInt8).length ≤ 210; decide
    · show ([101, 110, 100] : List UInt8).length ≤ 210; decide
    · show (Lib.itoa v.2.1).length ≤ 210
      have := itoa_len (n := v.2.1) (by omega) (by omega); omega
    · show ([39] ++ v.2.2.1 ++ [39]).length ≤ 210
      simp; omega
    · exact oidc_len _
def bindX (x : Bind) : List UInt8 := cond (pOid x.1) (oidX x.1) [] ++ [32, 61, 32] ++ valX x.2
theorem bindX_len (x : Bind) : (bindX x).length ≤ 430 := by
  have h1 := oidc_len x.1; have h2 := valX_len x.2
  unfold bindX; simp; omega
theorem bindTextT {x : Bind} (h : XLe M x) : impl_BindText x = some (bindX x) := by
  have h1 := oidc_len x.1; have h2 := valX_len x.2
  unfold impl_BindText
  rw [oidTextT h.1, Option.bind_some, catT (by simp; omega), Option.bind_some, valTextT h.2, Option.bind_some, catT (by simp; omega)]; rfl
theorem bindTextS {x : Bind} (h : XLe M x) : spec_BindText x = some (bindX x) := by
  have h1 := oidc_len x.1; have h2 := valX_len x.2
  unfold spec_BindText
  rw [oidTextS h.1, Option.bind_some, catT (by simp; omega), Option.bind_some, valTextS h.2, Option.bind_some, catT (by simp; omega)]; rfl

set_option linter.unusedVariables false
set_option linter.unusedSimpArgs false
def kindX (k : Int) : List UInt8 := cond (k == 160) [103, 101, 116] (cond (k == 161) [110, 101, 120, 116] (cond (k == 162) [97, 110, 115, 119, 101, 114] (cond (k == 163) [115, 101, 116] [98, 117, 108, 107])))
def headX (p : Pdu) : List UInt8 := kindX p.1 ++ [32] ++ Lib.itoa p.2.1 ++ cond (p.1 == 162 || p.1 == 165) ([32] ++ Lib.itoa p.2.2.1 ++ [32] ++ Lib.itoa p.2.2.2.1) []
def bindsX (l : List Bind) : List UInt8 := (l.map fun x => [10] ++ bindX x).flatten
def pduX (p : Pdu) : List UInt8 := cond (pPdu p) (headX p ++ bindsX p.2.2.2.2) []
theorem kindX_len (k : Int) : (kindX k).length ≤ 6 := by
  unfold kindX
  cases k == 160 <;> cases k == 161 <;> cases k == 162 <;> cases k == 163 <;> simp
theorem kindS (k : Int) : spec_l26Kind k = some (kindX k) := by
  unfold spec_l26Kind kindX
  cases k == 160 <;> cases k == 161 <;> cases k == 162 <;> cases k == 163 <;> rfl
theorem bindsX_snoc (l : List Bind) (x : Bind) : bindsX (l ++ [x]) = bindsX l ++ ([10] ++ bindX x) := by simp [bindsX]
theorem bindsX_len : ∀ (l : List Bind), (bindsX l).length ≤ l.length * 431
  | [] => by simp [bindsX]
  | x :: l => by
    have h1 := bindX_len x; have h2 := bindsX_len l
    have e : (bindsX (x :: l)).length = (1 + (bindX x).length) + (bindsX l).length := by simp [bindsX, Nat.add_comm, Nat.add_assoc]
    rw [e, List.length_cons, Nat.add_mul]; omega
theorem pPdu_facts {p : Pdu} (h : pPdu p = true) : p.2.2.2.2.length ≤ 10 ∧ (-2147483648 ≤ p.2.1 ∧ p.2.1 ≤ 2147483647) ∧ ((p.1 == 162 || p.1 == 165) = true → (0 ≤ p.2.2.1 ∧ p.2.2.1 ≤ 1000) ∧ 0 ≤ p.2.2.2.1 ∧ p.2.2.2.1 ≤ 1000) := by
  unfold pPdu at h
  simp only [Bool.and_eq_true, decide_eq_true_eq] at h
  obtain ⟨⟨_, h1⟩, h2, h3⟩ := h
  refine ⟨by omega, pIn_t h3, fun hk => ?_⟩
  rw [hk, cond_true, Bool.and_eq_true] at h2
  exact ⟨pIn_t h2.1, pIn_t h2.2⟩
theorem pdu_loopX {p : Pdu} (h : PLe M p) (hl : p.2.2.2.2.length ≤ 10) {s : List UInt8} (hs : s.length ≤ 1000) : loop (fun z => impl_PduText_l1 p z.1 z.2) (s, 0) = some (s ++ bindsX p.2.2.2.2) := by
  obtain ⟨d, d1, rfl⟩ := loop_inv (step := fun z : List UInt8 × Int => impl_PduText_l1 p z.1 z.2) (fun k z => z = (s ++ bindsX (p.2.2.2.2.take k), (k : Int))) p.2.2.2.2.length (fun d => d = s ++ bindsX p.2.2.2.2)
    (fun k z hk hz => by
      subst hz
      refine .inl ⟨_, ?_, rfl⟩
      have h1 := bindX_len p.2.2.2.2[k]
      have h2 := bindsX_len (p.2.2.2.2.take k)
      have h3 : (p.2.2.2.2.take k).length * 431 ≤ 10 * 431 := Nat.mul_le_mul_right _ (by rw [List.length_take]; omega)
      show impl_PduText_l1 p (s ++ bindsX (p.2.2.2.2.take k)) (k : Int) = _
      unfold impl_PduText_l1
      rw [dlt (by omega), cond_true, at_nat hk, Option.bind_some, bindTextT (h.2 _ (List.getElem_mem hk)), Option.bind_some, catT (by rw [List.length_singleton]; omega), Option.bind_some, catT (by simp only [List.length_append, List.length_singleton]; omega), Option.bind_some, w64_nat (by omega), take_snoc hk, bindsX_snoc]
      simp only [List.append_assoc])
    (fun z hz => by
      subst hz
      refine ⟨s ++ bindsX p.2.2.2.2, ?_, rfl⟩
      show impl_PduText_l1 p _ (p.2.2.2.2.length : Int) = _
      unfold impl_PduText_l1
      rw [dnlt (by omega), cond_false, List.take_length])
    (x := (s, 0)) (by simp [bindsX])
  exact d1
theorem pdu_loopXS {p : Pdu} (h : PLe M p) (hl : p.2.2.2.2.length ≤ 10) {s : List UInt8} (hs : s.length ≤ 1000) : loop (fun z => spec_PduText_l0 p z.1 z.2) (s, 0) = some (s ++ bindsX p.2.2.2.2) := by
  obtain ⟨d, d1, rfl⟩ := loop_inv (step := fun z : List UInt8 × Int => spec_PduText_l0 p z.1 z.2) (fun k z => z = (s ++ bindsX (p.2.2.2.2.take k), (k : Int))) p.2.2.2.2.length (fun d => d = s ++ bindsX p.2.2.2.2)
    (fun k z hk hz => by
      subst hz
      refine .inl ⟨_, ?_, rfl⟩
      have h1 := bindX_len p.2.2.2.2[k]
      have h2 := bindsX_len (p.2.2.2.2.take k)
      have h3 : (p.2.2.2.2.take k).length * 431 ≤ 10 * 431 := Nat.mul_le_mul_right _ (by rw [List.length_take]; omega)
      show spec_PduText_l0 p (s ++ bindsX (p.2.2.2.2.take k)) (k : Int) = _
      unfold spec_PduText_l0
      rw [dlt (by omega), cond_true, catT (by simp only [List.length_append, List.length_singleton]; omega), Option.bind_some, at_nat hk, Option.bind_some, bindTextS (h.2 _ (List.getElem_mem hk)), Option.bind_some, catT (by simp only [List.length_append, List.length_singleton]; omega), Option.bind_some, w64_nat (by omega), take_snoc hk, bindsX_snoc]
      simp only [List.append_assoc])
    (fun z hz => by
      subst hz
      refine ⟨s ++ bindsX p.2.2.2.2, ?_, rfl⟩
      show spec_PduText_l0 p _ (p.2.2.2.2.length : Int) = _
      unfold spec_PduText_l0
      rw [dnlt (by omega), cond_false, List.take_length])
    (x := (s, 0)) (by simp [bindsX])
  exact d1
theorem pdu_unf {p : Pdu} (h : PLe M p) (hp : pPdu p = true) : impl_PduText p =
    (cat (kindX p.1) [32]).bind fun t21 => (libItoa p.2.1).bind fun t24 => (cat t21 t24).bind fun t25 => (cond (p.1 == 162) (some true) (some (p.1 == 165))).bind fun t33 =>
      cond t33 ((libItoa p.2.2.1).bind fun t37 => (cat [32] t37).bind fun t38 => (cat t38 [32]).bind fun t39 => (libItoa p.2.2.2.1).bind fun t42 => (cat t39 t42).bind fun t43 => (cat t25 t43).bind fun t44 =>
        (loop (fun z => impl_PduText_l1 p z.1 z.2) (t44, 0)).bind fun d => some d)
      ((loop (fun z => impl_PduText_l1 p z.1 z.2) (t25, 0)).bind fun d => some d) := by
  unfold impl_PduText kindX
  rw [pduT h, hp, Option.bind_some, Bool.not_true, cond_false]
  cases p.1 == 160 with
  | true => rfl
  | false =>
    cases p.1 == 161 with
    | true => rfl
    | false =>
      cases p.1 == 162 with
      | true => rfl
      | false =>
        cases p.1 == 163 with
        | true => rfl
        | false => rfl
theorem pduTextT {p : Pdu} (h : PLe M p) : impl_PduText p = some (pduX p) := by
  unfold pduX
  cases hp : pPdu p with
  | false =>
    unfold impl_PduText
    rw [pduT h, hp]; rfl
  | true =>
    obtain ⟨hl, hi, hab⟩ := pPdu_facts hp
    have hk := kindX_len p.1
    have hn := itoa_len (n := p.2.1) (by omega) (by omega)
    rw [pdu_unf h hp, catT (by rw [List.length_singleton]; omega), Option.bind_some, itoaT (by omega) (by omega), Option.bind_some, catT (by simp only [List.length_append, List.length_singleton]; omega), Option.bind_some, cond_true]
    have e : (cond (p.1 == 162) (some true) (some (p.1 == 165)) : Option Bool) = some (p.1 == 162 || p.1 == 165) := by cases p.1 == 162 <;> rfl
    rw [e, Option.bind_some]
    unfold headX
    cases ht : (p.1 == 162 || p.1 == 165) with
    | false =>
      rw [cond_false, pdu_loopX h hl (by simp only [List.length_append, List.length_singleton]; omega), Option.bind_some, cond_false, List.append_nil]
    | true =>
      obtain ⟨ha, hb⟩ := hab ht
      have h1 := itoa_len (n := p.2.2.1) (by omega) (by omega)
      have h2 := itoa_len (n := p.2.2.2.1) (by omega) (by omega)
      rw [cond_true, itoaT (by omega) (by omega), Option.bind_some, catT (by rw [List.length_singleton]; omega), Option.bind_some, catT (by simp only [List.length_append, List.length_singleton]; omega), Option.bind_some, itoaT (by omega) (by omega), Option.bind_some, catT (by simp only [List.length_append, List.length_singleton]; omega), Option.bind_some,
        catT (by simp only [List.length_append, List.length_singleton]; omega), Option.bind_some, pdu_loopX h hl (by simp only [List.length_append, List.length_singleton]; omega), Option.bind_some, cond_true]
theorem pduTextS {p : Pdu} (h : PLe M p) : spec_PduText p = some (pduX p) := by
  unfold pduX spec_PduText
  rw [pduS h, Option.bind_some]
  cases hp : pPdu p with
  | false => rfl
  | true =>
    obtain ⟨hl, hi, hab⟩ := pPdu_facts hp
    have hk := kindX_len p.1
    have hn := itoa_len (n := p.2.1) (by omega) (by omega)
    rw [Bool.not_true, cond_false, kindS, Option.bind_some, catT (by rw [List.length_singleton]; omega), Option.bind_some, numT (by omega) (by omega), Option.bind_some, catT (by simp only [List.length_append, List.length_singleton]; omega), Option.bind_some, cond_true]
    have e : (cond (p.1 == 162) (some true) (some (p.1 == 165)) : Option Bool) = some (p.1 == 162 || p.1 == 165) := by cases p.1 == 162 <;> rfl
    rw [e, Option.bind_some]
    unfold headX
    cases ht : (p.1 == 162 || p.1 == 165) with
    | false =>
      have el : loop (fun z => spec_PduText_l0_1 p z.1 z.2) (kindX p.1 ++ [32] ++ Lib.itoa p.2.1, 0) = _ := pdu_loopXS h hl (s := kindX p.1 ++ [32] ++ Lib.itoa p.2.1) (by simp only [List.length_append, List.length_singleton]; omega)
      rw [cond_false, el, Option.bind_some, cond_false, List.append_nil]
    | true =>
      obtain ⟨ha, hb⟩ := hab ht
      have h1 := itoa_len (n := p.2.2.1) (by omega) (by omega)
      have h2 := itoa_len (n := p.2.2.2.1) (by omega) (by omega)
      rw [cond_true, catT (by simp only [List.length_append, List.length_singleton]; omega), Option.bind_some, numT (by omega) (by omega), Option.bind_some, catT (by simp only [List.length_append, List.length_singleton]; omega), Option.bind_some, catT (by simp only [List.length_append, List.length_singleton]; omega), Option.bind_some, numT (by omega) (by omega), Option.bind_some,
        catT (by simp only [List.length_append, List.length_singleton]; omega), Option.bind_some, pdu_loopXS h hl (by simp only [List.length_append, List.length_singleton]; omega), Option.bind_some, cond_true]
      simp only [List.append_assoc]

end Go.V.W

