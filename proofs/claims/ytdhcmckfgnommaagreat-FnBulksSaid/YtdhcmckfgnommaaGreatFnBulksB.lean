/- The law FnBulks: part of the proof that for every input it returns true. No condition. -/
import Derived.Test.YtdhcmckfgnommaaGreatFnBulksBP1
namespace Go.V.W
set_option linter.unusedVariables false
set_option linter.unusedSimpArgs false
theorem walkX {b : Bridge} (h : BOk b) {o : List Int} (ho : o.length ≤ 1000) {j : Nat} (hj : At (mib b) o j) {n : Nat} (hn : n ≤ 200) : impl_Walk b o (n : Int) = some (((mib b).drop j).take n) := by
  have hle := mib_le h
  have hjl := hj.le
  have hin : pIn (n : Int) 0 200 = true := inP (by omega) (by omega)
  obtain ⟨v, h1, rfl⟩ := loop_inv (step := fun z : List Int × List Bind => impl_Walk_l0 b (n : Int) z.1 z.2) (fun k z => At (mib b) z.1 (j + k) ∧ z.1.length ≤ 1000 ∧ z.2 = ((mib b).drop j).take k ∧ z.2.length = k) (min n ((mib b).length - j)) (fun v => v = ((mib b).drop j).take n)
    (fun k z hk ⟨a1, a2, a3, a4⟩ => by
      obtain ⟨q, out⟩ := z
      simp only at a1 a2 a3 a4
      left
      have hjk : j + k < (mib b).length := by omega
      obtain ⟨x1, x2⟩ := mib_each h _ (List.getElem_mem hjk)
      have x10 := x1.n10
      refine ⟨((mib b)[j + k].1, out ++ [(mib b)[j + k]]), ?_, at_self (mib_pair h) hjk, by show (mib b)[j + k].1.length ≤ _; omega, ?_, by show (out ++ [_]).length = _; rw [List.length_append, a4]; rfl⟩
      · show impl_Walk_l0 b (n : Int) q out = _
        unfold impl_Walk_l0
        have h130 : ((mib b)[j + k].2.1 == 130) = false := by
          generalize (mib b)[j + k].2 = v at x2
          cases x2 <;> rfl
        rw [inT, Option.bind_some, hin, cond_true, dlt (show (out.length : Int) < (n : Int) by omega), Option.bind_some, cond_true, nextX h a2 a1, dif_pos hjk, Option.bind_some, h130, cond_false, app_small (by show out.length + 1 ≤ _; omega), Option.bind_some]
      · show out ++ [(mib b)[j + k]] = _
        rw [List.take_add_one, ← a3, List.getElem?_drop, List.getElem?_eq_getElem hjk]; rfl)
    (fun z ⟨a1, a2, a3, a4⟩ => by
      obtain ⟨q, out⟩ := z
      simp only at a1 a2 a3 a4
      show ∃ v, impl_Walk_l0 b (n : Int) q out = _ ∧ _
      unfold impl_Walk_l0
      rw [inT, Option.bind_some, hin, cond_true]
      by_cases hnl : n ≤ (mib b).length - j
      · rw [Nat.min_eq_left hnl] at a1 a3 a4
        rw [dnlt (show ¬ (out.length : Int) < (n : Int) by omega), Option.bind_some, cond_false]
        exact ⟨_, rfl, a3⟩
      · rw [Nat.min_eq_right (by omega)] at a1 a3 a4
        rw [dlt (show (out.length : Int) < (n : Int) by omega), Option.bind_some, cond_true, nextX h a2 a1, dif_neg (by omega), Option.bind_some]
        refine ⟨_, rfl, ?_⟩
        rw [a3, List.take_of_length_le (by rw [List.length_drop]; omega), List.take_of_length_le (by rw [List.length_drop]; omega)]) (x := (o, [])) ⟨hj, ho, by simp, rfl⟩
  unfold impl_Walk
  rw [h1, Option.bind_some]
theorem app_nil {α : Type} {ys : List α} (h : ys.length ≤ M) : app [] ys = some ys := by
  unfold app
  rw [if_pos (by show 0 + ys.length ≤ 4294967296; have h' : ys.length ≤ 1048576 := h; omega)]; rfl
theorem copyInts {l : List Int} (h : l.length ≤ M) : impl_copyInts l = some l := by unfold impl_copyInts; rw [app_nil h]; rfl
theorem copyBytes {l : List Int} (h : l.length ≤ M) : impl_copyBytes l = some l := by unfold impl_copyBytes; rw [app_nil h]; rfl
theorem copyFdb {l : List Fent} (h : l.length ≤ M) : impl_copyFdb l = some l := by unfold impl_copyFdb; rw [app_nil h]; rfl
theorem copyFdbS {l : List Fent} (h : l.length ≤ M) : spec_l8Copy l = some l := by unfold spec_l8Copy; rw [app_nil h]; rfl
theorem copyVtab {v : Vtab} (h : v.1.length ≤ M ∧ v.2.length ≤ M) : impl_copyVtab v = some v := by
  unfold impl_copyVtab; rw [app_nil h.1, Option.bind_some, copyInts h.2]; rfl
theorem copyVtabS {v : Vtab} (h : v.1.length ≤ M ∧ v.2.length ≤ M) : spec_l9Copy v = some v := by
  unfold spec_l9Copy; rw [app_nil h.1, Option.bind_some, app_nil h.2]; rfl
theorem copyBridge {b : Bridge} (h : BLe M b) : impl_copyBridge b = some b := by
  obtain ⟨h1, h2, h3, h4, h5⟩ := h
  unfold impl_copyBridge
  rw [app_nil h2, Option.bind_some, copyFdb h3, Option.bind_some, copyVtab ⟨h4, h5⟩]; rfl
theorem copyBridgeS {b : Bridge} (h : BLe M b) : spec_l11Copy b = some b := by
  obtain ⟨h1, h2, h3, h4, h5⟩ := h
  unfold spec_l11Copy
  rw [app_nil h2, Option.bind_some, copyFdbS h3, Option.bind_some, copyVtabS ⟨h4, h5⟩]; rfl
def bOid (o : List Int) (k : Nat) : Bool := match o[k]? with | some x => !(pIn x 0 100000) | none => false
def pOid (o : List Int) : Bool := !((List.range o.length).any (bOid o)) && pIn (o.length : Int) 1 10
theorem oidT {o : List Int} (h : o.length < 9223372036854775807) : impl_OidOk o = some (pOid o) := by
  unfold impl_OidOk pOid
  have e : loop (fun z => impl_OidOk_l0 o z) 0 = some (cond ((List.range o.length).any (bOid o)) (Sum.inr false) (Sum.inl ())) := by
    rw [← all_loop (n := o.length) (c := fun i => (at? o i).bind fun x => (impl_in x 0 100000).bind fun t => some (!t)) (b := bOid o) h (fun k hk => by
      simp only [at_nat hk, Option.bind_some, bOid, List.getElem?_eq_getElem hk, inT])]
    refine loop_ext (fun i => ?_) 0
    unfold impl_OidOk_l0
    simp only [Option.bind_assoc, Option.bind_some]
  rw [e, Option.bind_some]
  cases (List.range o.length).any (bOid o) with
  | true => rfl
  | false => simp only [cond_false, Sum.elim_inl, inT, Option.bind_some, Bool.not_false, Bool.true_and]
theorem sameNil (l : List Int) : impl_SameOid l [] = some ((l.length : Int) == 0) := by
  cases l with
  | nil => exact eqS_of (n := 0) (eq_loop' (a := []) (by decide))
  | cons x l =>
    unfold impl_SameOid
    have e : (((x :: l).length : Int) != (([] : List Int).length : Int)) = true := by simp; omega
    rw [e, cond_true, beq_eq_false_iff_ne.2 (by simp; omega)]
theorem sameSelf {l : List Int} (h : l.length ≤ M) : impl_SameOid l l = some true := eqS_of (eq_loop' (le32 h))
def pVal (v : Val) : Bool :=
  cond (v.1 == 5 || (v.1 == 128 || v.1 == 130)) (v.2.1 == 0 && (v.2.2.1 == [] && ((v.2.2.2.length : Int) == 0)))
    (cond (v.1 == 2) (pIn v.2.1 (-2147483648) 2147483647 && (v.2.2.1 == [] && ((v.2.2.2.length : Int) == 0)))
      (cond (v.1 == 4) (decide ((v.2.2.1.length : Int) ≤ 20) && (v.2.1 == 0 && ((v.2.2.2.length : Int) == 0)))
        (cond (v.1 == 6) (pOid v.2.2.2 && (v.2.1 == 0 && (v.2.2.1 == []))) false)))
theorem valT {v : Val} (h : v.2.2.2.length ≤ M) : impl_ValOk v = some (pVal v) := by
  obtain ⟨k, n, s, o⟩ := v
  have h' : o.length ≤ 1048576 := h
  have ho : o.length ≤ M := h
  have hb : o.length < 9223372036854775807 := by omega
  unfold impl_ValOk pVal impl_SameVal impl_isInt
  simp only [inT, sameNil, sameSelf ho, oidT hb, Option.bind_some]
  by_cases h2 : k = 2
  · subst h2; cases pIn n (-2147483648) 2147483647 <;> cases s == [] <;> cases (o.length : Int) == 0 <;> simp
  by_cases h4 : k = 4
  · subst h4; cases decide ((s.length : Int) ≤ 20) <;> cases n == 0 <;> cases (o.length : Int) == 0 <;> simp
  by_cases h6 : k = 6
  · subst h6; cases pOid o <;> cases n == 0 <;> cases s == [] <;> simp
  rw [beq_eq_false_iff_ne.2 h2, beq_eq_false_iff_ne.2 h4, beq_eq_false_iff_ne.2 h6]
  by_cases h5 : k = 5
  · subst h5; cases n == 0 <;> cases s == [] <;> cases (o.length : Int) == 0 <;> simp
  by_cases h128 : k = 128
  · subst h128; cases n == 0 <;> cases s == [] <;> cases (o.length : Int) == 0 <;> simp
  by_cases h130 : k = 130
  · subst h130; cases n == 0 <;> cases s == [] <;> cases (o.length : Int) == 0 <;> simp
  rw [beq_eq_false_iff_ne.2 h5, beq_eq_false_iff_ne.2 h128, beq_eq_false_iff_ne.2 h130]
  rfl
def xOk (x : Bind) : Bool := pOid x.1 && pVal x.2
def bX (l : List Bind) (k : Nat) : Bool := match l[k]? with | some x => !(xOk x) | none => false
def pPdu (p : Pdu) : Bool :=
  (!((List.range p.2.2.2.2.length).any (bX p.2.2.2.2)) && decide ((p.2.2.2.2.length : Int) ≤ 10)) &&
  (cond (p.1 == 162 || p.1 == 165) (pIn p.2.2.1 0 1000 && pIn p.2.2.2.1 0 1000)
    (cond (p.1 == 160 || (p.1 == 161 || p.1 == 163)) (p.2.2.1 == 0 && p.2.2.2.1 == 0) false) && pIn p.2.1 (-2147483648) 2147483647)
theorem any_or {n : Nat} {f g : Nat → Bool} : (List.range n).any (fun k => f k || g k) = ((List.range n).any f || (List.range n).any g) := by
  generalize List.range n = l
  induction l with
  | nil => rfl
  | cons a l ih => simp only [List.any_cons, ih]; cases f a <;> cases g a <;> simp
theorem any_ten (n : Nat) : (List.range n).any (fun k => decide ((k : Int) ≥ 10)) = !(decide ((n : Int) ≤ 10)) := by
  by_cases h : (n : Int) ≤ 10
  · rw [decide_eq_true h]
    refine Bool.eq_false_iff.2 fun ha => ?_
    obtain ⟨k, h1, h2⟩ := List.any_eq_true.1 ha
    have := List.mem_range.1 h1
    have := of_decide_eq_true h2
    omega
  · rw [decide_eq_false h]
    exact List.any_eq_true.2 ⟨10, List.mem_range.2 (by omega), by decide⟩
theorem pdu_loop {p : Pdu} (h : PLe M p) : loop (fun z => impl_PduOk_l1 p z) 0 = some (cond (!(decide ((p.2.2.2.2.length : Int) ≤ 10)) || (List.range p.2.2.2.2.length).any (bX p.2.2.2.2)) (Sum.inr false) (Sum.inl ())) := by
  obtain ⟨k, i, e, x, l⟩ := p
  have h' : XsLe M l := h
  have hl : l.length ≤ 1048576 := h'.1
  show loop (fun z => impl_PduOk_l1 (k, i, e, x, l) z) 0 = some (cond (!(decide ((l.length : Int) ≤ 10)) || (List.range l.length).any (bX l)) (Sum.inr false) (Sum.inl ()))
  rw [← any_ten, ← any_or, ← all_loop (n := l.length) (c := fun i => (at? l i).bind fun x => (cond (decide (i ≥ 10)) (some true) ((impl_OidOk x.1).bind fun t => some (!t))).bind fun t => (cond t (some true) ((impl_ValOk x.2).bind fun t => some (!t)))) (b := fun k => decide ((k : Int) ≥ 10) || bX l k) (by omega) (fun k hk => by
    have hx : XLe M l[k] := h'.2 _ (List.getElem_mem hk)
    have h1 : l[k].1.length ≤ 1048576 := hx.1
    have h2 : l[k].2.2.2.2.length ≤ M := hx.2.2
    simp only [at_nat hk, Option.bind_some, bX, List.getElem?_eq_getElem hk, oidT (show l[k].1.length < 9223372036854775807 by omega), valT (v := l[k].2) h2, xOk]
    cases decide ((k : Int) ≥ 10) <;> cases pOid l[k].1 <;> cases pVal l[k].2 <;> rfl)]
  refine loop_ext (fun i => ?_) 0
  unfold impl_PduOk_l1
  simp only [Option.bind_assoc, Option.bind_some]
theorem pduT {p : Pdu} (h : PLe M p) : impl_PduOk p = some (pPdu p) := by
  have e0 := pdu_loop h
  have e1 : loop (fun z => impl_PduOk_l1_1 p z) 0 = _ := e0
  have e2 : loop (fun z => impl_PduOk_l1_2 p z) 0 = _ := e0
  have e3 : loop (fun z => impl_PduOk_l1_3 p z) 0 = _ := e0
  have e4 : loop (fun z => impl_PduOk_l1_4 p z) 0 = _ := e0
  have e5 : loop (fun z => impl_PduOk_l1_5 p z) 0 = _ := e0
  have e6 : loop (fun z => impl_PduOk_l1_6 p z) 0 = _ := e0
  have e7 : loop (fun z => impl_PduOk_l1_7 p z) 0 = _ := e0
  have e8 : loop (fun z => impl_PduOk_l1_8 p z) 0 = _ := e0
  unfold impl_PduOk pPdu impl_isInt
  rw [e0, e1, e2, e3, e4, e5, e6, e7, e8]
  simp only [inT, Option.bind_some]
  generalize (List.range p.2.2.2.2.length).any (bX p.2.2.2.2) = u
  generalize decide ((p.2.2.2.2.length : Int) ≤ 10) = w
  generalize pIn p.2.1 (-2147483648) 2147483647 = x
  generalize p.2.2.1 = e
  generalize p.2.2.2.1 = i
  generalize p.1 = k
  by_cases h0 : k = 160
  · subst h0
    have b1 : (e != 0) = !(e == 0) := rfl
    have b2 : (i != 0) = !(i == 0) := rfl
    rw [b1, b2]
    cases e == 0 <;> cases i == 0 <;> cases u <;> cases w <;> cases x <;> rfl
  by_cases h1 : k = 161
  · subst h1
    have b1 : (e != 0) = !(e == 0) := rfl
    have b2 : (i != 0) = !(i == 0) := rfl
    rw [b1, b2]
    cases e == 0 <;> cases i == 0 <;> cases u <;> cases w <;> cases x <;> rfl
  by_cases h3 : k = 163
  · subst h3
    have b1 : (e != 0) = !(e == 0) := rfl
    have b2 : (i != 0) = !(i == 0) := rfl
    rw [b1, b2]
    cases e == 0 <;> cases i == 0 <;> cases u <;> cases w <;> cases x <;> rfl
  by_cases h2 : k = 162
  · subst h2; cases pIn e 0 1000 <;> cases pIn i 0 1000 <;> cases u <;> cases w <;> cases x <;> rfl
  by_cases h5 : k = 165
  · subst h5; cases pIn e 0 1000 <;> cases pIn i 0 1000 <;> cases u <;> cases w <;> cases x <;> rfl
  rw [beq_eq_false_iff_ne.2 h0, beq_eq_false_iff_ne.2 h1, beq_eq_false_iff_ne.2 h2, beq_eq_false_iff_ne.2 h3, beq_eq_false_iff_ne.2 h5]
  cases u <;> cases w <;> rfl
theorem copy_loop {α : Type} {l : List α} {step : Int × List α → Option ((Int × List α) ⊕ List α)} (hn : l.length ≤ M)
    (hs : ∀ k (hk : k < l.length) out, step ((k : Int), out) = (app out [l[k]]).bind fun zs => some (.inl (((k + 1 : Nat) : Int), zs)))
    (he : ∀ out, step ((l.length : Int), out) = some (.inr out)) : loop step (0, []) = some l := by
  have hn' : l.length ≤ 1048576 := hn
  obtain ⟨b, h1, rfl⟩ := loop_inv (step := step) (fun k z => z = ((k : Int), l.take k)) l.length (fun b => b = l)
    (fun k z hk e => by
      subst e
      left
      refine ⟨_, by rw [hs k hk, app_small (by rw [List.length_take]; show _ + 1 ≤ _; omega), Option.bind_some], ?_⟩
      rw [List.take_add_one, List.getElem?_eq_getElem hk]; rfl)
    (fun z e => by
      subst e
      exact ⟨_, he _, by rw [List.take_length]⟩) (x := (0, [])) rfl
  exact h1
theorem copyVal {v : Val} (h : VLe M v) : impl_copyVal v = some v := by unfold impl_copyVal; rw [copyInts h.2]; rfl
theorem copyBinds {l : List Bind} (h : XsLe M l) : impl_copyBinds l = some l := by
  have hn : l.length ≤ 1048576 := h.1
  unfold impl_copyBinds
  rw [copy_loop (step := fun z => impl_copyBinds_l0 l z.1 z.2) h.1 (fun k hk out => by
    show impl_copyBinds_l0 l (k : Int) out = _
    unfold impl_copyBinds_l0
    have hx := h.2 _ (List.getElem_mem hk)
    rw [dlt (by omega), cond_true, at_nat hk, Option.bind_some, copyInts hx.1, Option.bind_some, copyVal hx.2, Option.bind_some, w64_nat (by omega)]) (fun out => by
    show impl_copyBinds_l0 l (l.length : Int) out = _
    unfold impl_copyBinds_l0
    rw [dnlt (by omega), cond_false])]; rfl
def rowIx (l : List Vrow) (id : Int) : Int := match l.findIdx? (fun r => r.1 == id) with | some k => (k : Int) | none => -1
theorem rowAtX {v : Vtab} (hn : v.1.length < 9223372036854775807) (id : Int) : impl_RowAt v id = some (rowIx v.1 id) := by
  unfold impl_RowAt rowIx
  obtain ⟨b, h1, rfl⟩ := loop_inv (β := Unit ⊕ Int) (step := fun z => impl_RowAt_l0 v id z) (fun k i => i = (k : Int) ∧ ∀ j (hj : j < k), ∀ (hl : j < v.1.length), ¬ ((v.1[j].1 == id) = true)) v.1.length (fun b => b = match v.1.findIdx? (fun r => r.1 == id) with | some k => .inr (k : Int) | none => .inl ())
    (fun k i hk ⟨h, hy⟩ => by
      subst h
      unfold impl_RowAt_l0
      rw [dlt (by omega), cond_true, at_nat hk, Option.bind_some]
      cases hb : (v.1[k].1 == id) with
      | true =>
        refine .inr ⟨_, rfl, ?_⟩
        rw [List.findIdx?_eq_some_iff_getElem.2 ⟨hk, hb, fun j hj => hy j hj (by omega)⟩]
      | false =>
        refine .inl ⟨_, rfl, w64_nat (by omega), fun j hj hl => ?_⟩
        by_cases hjk : j = k
        · subst hjk; rw [hb]; simp
        · exact hy j (by omega) hl)
    (fun i ⟨h, hy⟩ => by
      subst h
      refine ⟨.inl (), by unfold impl_RowAt_l0; rw [dnlt (by omega), cond_false], ?_⟩
      rw [List.findIdx?_eq_none_iff.2 fun x hx => by
        obtain ⟨j, hj, rfl⟩ := List.getElem_of_mem hx
        have := hy j hj hj
        simpa using this]) (x := 0) ⟨rfl, fun j hj => by omega⟩
  rw [h1, Option.bind_some]
  cases v.1.findIdx? (fun r => r.1 == id) <;> rfl
theorem rowAtXS {v : Vtab} (hn : v.1.length < 9223372036854775807) (id : Int) : spec_RowAt v id = some (rowIx v.1 id) := rowAtX hn id
theorem rowIx_some {l : List Vrow} {id : Int} (h : 0 ≤ rowIx l id) : ∃ k, ∃ hk : k < l.length, rowIx l id = (k : Int) ∧ l[k].1 = id := by
  unfold rowIx at h ⊢
  cases hf : l.findIdx? (fun r => r.1 == id) with
  | none => rw [hf] at h; simp at h
  | some k =>
    obtain ⟨hk, h1, _⟩ := List.findIdx?_eq_some_iff_getElem.1 hf
    exact ⟨k, hk, rfl, by simpa using h1⟩
theorem rowIx_none {l : List Vrow} {id : Int} (h : rowIx l id < 0) : ∀ x ∈ l, x.1 ≠ id := by
  unfold rowIx at h
  cases hf : l.findIdx? (fun r => r.1 == id) with
  | some k => rw [hf] at h; simp at h; omega
  | none =>
    intro x hx
    have := List.findIdx?_eq_none_iff.1 hf x hx
    simpa using this
def entIx (l : List Fent) (tag mac : Int) : Int := match l.findIdx? (fun e => e.1 == tag && e.2.1 == mac) with | some k => (k : Int) | none => -1
theorem entAtX {l : List Fent} (hn : l.length < 9223372036854775807) (tag mac : Int) : impl_entAt l tag mac = some (entIx l tag mac) := by
  unfold impl_entAt entIx
  obtain ⟨b, h1, rfl⟩ := loop_inv (β := Unit ⊕ Int) (step := fun z => impl_entAt_l0 l tag mac z) (fun k i => i = (k : Int) ∧ ∀ j (hj : j < k), ∀ (hl : j < l.length), ¬ ((l[j].1 == tag && l[j].2.1 == mac) = true)) l.length (fun b => b = match l.findIdx? (fun e => e.1 == tag && e.2.1 == mac) with | some k => .inr (k : Int) | none => .inl ())
    (fun k i hk ⟨h, hy⟩ => by
      subst h
      have hs : impl_entAt_l0 l tag mac (k : Int) = cond (l[k].1 == tag && l[k].2.1 == mac) (some (.inr (.inr (k : Int)))) (some (.inl ((k + 1 : Nat) : Int))) := by
        unfold impl_entAt_l0
        simp only [dlt (show (k : Int) < (l.length : Int) by omega), cond_true, at_nat hk, Option.bind_some, w64_nat (show k < 9223372036854775807 by omega)]
        cases l[k].1 == tag <;> rfl
      show (∃ y, impl_entAt_l0 l tag mac (k : Int) = some (.inl y) ∧ _) ∨ ∃ b, impl_entAt_l0 l tag mac (k : Int) = some (.inr b) ∧ _
      rw [hs]
      cases hb : (l[k].1 == tag && l[k].2.1 == mac) with
      | true =>
        refine .inr ⟨_, rfl, ?_⟩
        rw [List.findIdx?_eq_some_iff_getElem.2 ⟨hk, hb, fun j hj => hy j hj (by omega)⟩]
      | false =>
        refine .inl ⟨_, rfl, rfl, fun j hj hl => ?_⟩
        by_cases hjk : j = k
        · subst hjk; rw [hb]; simp
        · exact hy j (by omega) hl)
    (fun i ⟨h, hy⟩ => by
      subst h
      refine ⟨.inl (), by unfold impl_entAt_l0; rw [dnlt (by omega), cond_false], ?_⟩
      rw [List.findIdx?_eq_none_iff.2 fun x hx => by
        obtain ⟨j, hj, rfl⟩ := List.getElem_of_mem hx
        have := hy j hj hj
        simpa using this]) (x := 0) ⟨rfl, fun j hj => by omega⟩
  rw [h1, Option.bind_some]
  cases l.findIdx? (fun e => e.1 == tag && e.2.1 == mac) <;> rfl
theorem entAtXS {l : List Fent} (hn : l.length < 9223372036854775807) (tag mac : Int) : spec_l8At l tag mac = some (entIx l tag mac) := by
  unfold spec_l8At entIx
  obtain ⟨b, h1, rfl⟩ := loop_inv (β := Unit ⊕ Int) (step := fun z => spec_l8At_l0 l tag mac z) (fun k i => i = (k : Int) ∧ ∀ j (hj : j < k), ∀ (hl : j < l.length), ¬ ((l[j].1 == tag && l[j].2.1 == mac) = true)) l.length (fun b => b = match l.findIdx? (fun e => e.1 == tag && e.2.1 == mac) with | some k => .inr (k : Int) | none => .inl ())
    (fun k i hk ⟨h, hy⟩ => by
      subst h
      have hs : spec_l8At_l0 l tag mac (k : Int) = cond (l[k].1 == tag && l[k].2.1 == mac) (some (.inr (.inr (k : Int)))) (some (.inl ((k + 1 : Nat) : Int))) := by
        unfold spec_l8At_l0
        simp only [dlt (show (k : Int) < (l.length : Int) by omega), cond_true, at_nat hk, Option.bind_some, w64_nat (show k < 9223372036854775807 by omega)]
        cases l[k].1 == tag <;> rfl
      show (∃ y, spec_l8At_l0 l tag mac (k : Int) = some (.inl y) ∧ _) ∨ ∃ b, spec_l8At_l0 l tag mac (k : Int) = some (.inr b) ∧ _
      rw [hs]
      cases hb : (l[k].1 == tag && l[k].2.1 == mac) with
      | true =>
        refine .inr ⟨_, rfl, ?_⟩
        rw [List.findIdx?_eq_some_iff_getElem.2 ⟨hk, hb, fun j hj => hy j hj (by omega)⟩]
      | false =>
        refine .inl ⟨_, rfl, rfl, fun j hj hl => ?_⟩
        by_cases hjk : j = k
        · subst hjk; rw [hb]; simp
        · exact hy j (by omega) hl)
    (fun i ⟨h, hy⟩ => by
      subst h
      refine ⟨.inl (), by unfold spec_l8At_l0; rw [dnlt (by omega), cond_false], ?_⟩
      rw [List.findIdx?_eq_none_iff.2 fun x hx => by
        obtain ⟨j, hj, rfl⟩ := List.getElem_of_mem hx
        have := hy j hj hj
        simpa using this]) (x := 0) ⟨rfl, fun j hj => by omega⟩
  rw [h1, Option.bind_some]
  cases l.findIdx? (fun e => e.1 == tag && e.2.1 == mac) <;> rfl

def numP (o : List Int) (lo hi : Int) (head : List Int) : Bool := (o.length == head.length + 4) && ((o.take (head.length + 3) == [1, 3, 1] ++ head) && (match o[head.length + 3]? with | some x => pIn x lo hi | none => false))
theorem numB {o : List Int} (lo hi : Int) {head : List Int} (ho : o.length ≤ M) (hh : head.length ≤ 100) : impl_numbered o lo hi head = some (numP o lo hi head) := by
  have ho' : o.length ≤ 1048576 := ho
  have hw : w64 ((head.length : Int) + 4) = ((head.length + 4 : Nat) : Int) := by rw [w64_id (by omega) (by omega)]; omega
  unfold impl_numbered numP
  rw [hw]
  by_cases hl : o.length = head.length + 4
  · have hw2 : w64 ((o.length : Int) - 1) = ((head.length + 3 : Nat) : Int) := by rw [w64_id (by omega) (by omega)]; omega
    have hc : cut o 0 ((head.length + 3 : Nat) : Int) = some (o.take (head.length + 3)) := by
      rw [show (0 : Int) = ((0 : Nat) : Int) from rfl, cut_ok (Nat.zero_le _) (by omega), List.drop_zero]
    have hlt : head.length + 3 < o.length := by omega
    rw [show ((o.length : Int) == ((head.length + 4 : Nat) : Int)) = true from beq_iff_eq.2 (by omega), cond_true, hw2, hc, Option.bind_some, app_small (by show 3 + head.length ≤ _; omega), Option.bind_some, sameO (by rw [List.length_append]; show 3 + head.length < _; omega), Option.bind_some, at_nat hlt, Option.bind_some, inT, Option.bind_some, List.getElem?_eq_getElem hlt]
    rw [show (o.length == head.length + 4) = true from beq_iff_eq.2 hl]
    cases (o.take (head.length + 3) == [1, 3, 1] ++ head) <;> rfl
  · rw [show ((o.length : Int) == ((head.length + 4 : Nat) : Int)) = false from beq_eq_false_iff_ne.2 (by omega), cond_false, show (o.length == head.length + 4) = false from beq_eq_false_iff_ne.2 hl]
    rfl
abbrev nPorts (b : Bridge) : Int := (b.2.2.1.length : Int)
abbrev bRows (b : Bridge) : List Vrow := b.2.2.2.2.1
def canP (b : Bridge) (o : List Int) : Bool := numP o 1 1 [1] || (numP o 1 (nPorts b) [2, 2] || (numP o 1 (nPorts b) [2, 4] || (numP o 1 99 [3, 1] || ((numP o 1 99 [3, 2] || numP o 1 99 [3, 3]) && (match o[5]? with | some x => decide (rowIx (bRows b) x ≥ 0) | none => false)))))
theorem numP_len {o : List Int} {lo hi : Int} {head : List Int} (h : numP o lo hi head = true) : o.length = head.length + 4 := by
  unfold numP at h
  simp only [Bool.and_eq_true, beq_iff_eq] at h
  exact h.1
theorem canB {b : Bridge} (hb : BLe M b) {o : List Int} (ho : o.length ≤ M) : impl_canSet b o = some (canP b o) := by
  have hr : b.2.2.2.2.1.length < 9223372036854775807 := by have : b.2.2.2.2.1.length ≤ 1048576 := hb.2.2.2.1; omega
  unfold impl_canSet canP
  rw [numB 1 1 ho (by decide), numB 1 _ ho (by decide), numB 1 _ ho (by decide), numB 1 99 ho (by decide), numB 1 99 ho (by decide), numB 1 99 ho (by decide)]
  simp only [Option.bind_some]
  cases numP o 1 1 [1] with
  | true => rfl
  | false =>
  cases numP o 1 (nPorts b) [2, 2] with
  | true => rfl
  | false =>
  cases numP o 1 (nPorts b) [2, 4] with
  | true => rfl
  | false =>
  cases numP o 1 99 [3, 1] with
  | true => rfl
  | false =>
  have key : o.length = 6 → ((at? o 5).bind fun x41 => (impl_RowAt (b.2.2.2.2.1, b.2.2.2.2.2.1) x41).bind fun t43 => some (decide (t43 ≥ 0))) = some (match o[5]? with | some x => decide (rowIx (bRows b) x ≥ 0) | none => false) := by
    intro h6
    have h5 : 5 < o.length := by omega
    rw [show (5 : Int) = ((5 : Nat) : Int) from rfl, at_nat h5, Option.bind_some, rowAtX hr, Option.bind_some, List.getElem?_eq_getElem h5]
  cases h2 : numP o 1 99 [3, 2] with
  | true =>
    simp only [cond_false, cond_true, Option.bind_some, Bool.false_or, Bool.true_or, Bool.true_and]
    rw [key (numP_len h2)]; rfl
  | false =>
    cases h3 : numP o 1 99 [3, 3] with
    | true =>
      simp only [cond_false, cond_true, Option.bind_some, Bool.false_or, Bool.or_true, Bool.true_and]
      rw [key (numP_len h3)]; rfl
    | false => rfl
def readP (b : Bridge) (o : List Int) : Bool := numP o 2 5 [1] || (numP o 1 (nPorts b) [2, 1] || (numP o 1 (nPorts b) [2, 3] || (((o.length == 7) && (o.take 5 == [1, 3, 1, 4, 1])) && (match o[5]?, o[6]? with | some x, some y => decide (entIx b.2.2.2.1 x y ≥ 0) | _, _ => false))))
theorem readB {b : Bridge} (hb : BLe M b) {o : List Int} (ho : o.length ≤ M) : impl_canRead b o = some (readP b o) := by
  have hr : b.2.2.2.1.length < 9223372036854775807 := by have : b.2.2.2.1.length ≤ 1048576 := hb.2.2.1; omega
  unfold impl_canRead readP
  rw [numB 2 5 ho (by decide), numB 1 _ ho (by decide), numB 1 _ ho (by decide)]
  simp only [Option.bind_some]
  cases numP o 2 5 [1] with
  | true => rfl
  | false =>
  cases numP o 1 (nPorts b) [2, 1] with
  | true => rfl
  | false =>
  cases numP o 1 (nPorts b) [2, 3] with
  | true => rfl
  | false =>
  by_cases h7 : o.length = 7
  · have h5 : 5 < o.length := by omega
    have h6 : 6 < o.length := by omega
    have hc : cut o 0 5 = some (o.take 5) := by
      rw [show (0 : Int) = ((0 : Nat) : Int) from rfl, show (5 : Int) = ((5 : Nat) : Int) from rfl, cut_ok (Nat.zero_le _) (by omega), List.drop_zero]
    rw [show ((o.length : Int) == 7) = true from beq_iff_eq.2 (by omega), show (o.length == 7) = true from beq_iff_eq.2 h7]
    simp only [cond_false, cond_true, Option.bind_some, hc, sameO (show ([1, 3, 1, 4, 1] : List Int).length < 9223372036854775807 by decide), Bool.false_or, Bool.true_and]
    cases (o.take 5 == [1, 3, 1, 4, 1]) with
    | false => rfl
    | true =>
      rw [show (5 : Int) = ((5 : Nat) : Int) from rfl, show (6 : Int) = ((6 : Nat) : Int) from rfl]
      simp only [cond_true, at_nat h5, at_nat h6, Option.bind_some, entAtX hr, List.getElem?_eq_getElem h5, List.getElem?_eq_getElem h6, Bool.true_and]
  · rw [show ((o.length : Int) == 7) = false from beq_eq_false_iff_ne.2 (by omega), show (o.length == 7) = false from beq_eq_false_iff_ne.2 h7]
    rfl

def belP (o : List Int) : Bool := decide (o.length > 3) && (o.take 3 == [1, 3, 1])
theorem belB {o : List Int} (ho : o.length ≤ M) : spec_l18Below o = some (cond (belP o) (o.drop 3, true) ([], false)) := by
  have ho' : o.length ≤ 1048576 := ho
  unfold spec_l18Below spec_Below belP
  by_cases h : o.length > 3
  · have hc : cut o 0 ((([1, 3, 1] : List Int).length : Nat) : Int) = some (o.take 3) := by
      rw [show (0 : Int) = ((0 : Nat) : Int) from rfl, cut_ok (Nat.zero_le _) (by show 3 ≤ _; omega), List.drop_zero]; rfl
    have hc2 : cut o 3 (o.length : Int) = some (o.drop 3) := by
      rw [show (3 : Int) = ((3 : Nat) : Int) from rfl, cut_ok (by omega) (Nat.le_refl _), List.take_length]
    have hs : spec_SameOid (o.take 3) [1, 3, 1] = some (o.take 3 == [1, 3, 1]) := sameO (a := o.take 3) (b := [1, 3, 1]) (by decide)
    rw [decide_eq_true (show (o.length : Int) > (([1, 3, 1] : List Int).length : Int) by show (o.length : Int) > 3; omega), cond_true, hc, Option.bind_some, hs, decide_eq_true h]
    simp only [Option.bind_some, Bool.true_and]
    cases (o.take 3 == [1, 3, 1]) with
    | false => rfl
    | true => simp only [Bool.not_true, cond_false, cond_true, hc2, Option.bind_some]
  · rw [decide_eq_false (show ¬ (o.length : Int) > (([1, 3, 1] : List Int).length : Int) by show ¬ (o.length : Int) > 3; omega), decide_eq_false h]
    rfl
def mayP (b : Bridge) (o : List Int) : Bool := belP o && (match o.drop 3 with
  | [a, c] => a == 1 && c == 1
  | [a, c, p] => (a == 2 && ((c == 2 || c == 4) && pIn p 1 (nPorts b))) || (a == 3 && ((c == 1 && pIn p 1 99) || ((c == 2 || c == 3) && decide (rowIx (bRows b) p ≥ 0))))
  | _ => false)
theorem mayB {b : Bridge} (hb : BLe M b) {o : List Int} (ho : o.length ≤ M) : spec_l18May b o = some (mayP b o) := by
  have hr : b.2.2.2.2.1.length < 9223372036854775807 := by have : b.2.2.2.2.1.length ≤ 1048576 := hb.2.2.2.1; omega
  unfold spec_l18May mayP
  rw [belB ho, Option.bind_some]
  cases belP o with
  | false => rfl
  | true =>
    simp only [cond_true, Bool.not_true, cond_false, Bool.true_and]
    match o.drop 3 with
    | [] => rfl
    | [a] => rfl
    | [a, c] =>
      rw [show (([a, c].length : Int) == 2) = true from rfl, cond_true, show at? [a, c] 0 = some a from rfl, show at? [a, c] 1 = some c from rfl]
      simp only [Option.bind_some]
      cases a == 1 <;> rfl
    | [a, c, p] =>
      rw [show (([a, c, p].length : Int) == 2) = false from rfl, cond_false, show (([a, c, p].length : Int) != 3) = false from rfl, cond_false, show at? [a, c, p] 0 = some a from rfl, show at? [a, c, p] 1 = some c from rfl, show at? [a, c, p] 2 = some p from rfl]
      simp only [Option.bind_some, inS, rowAtXS (v := (b.2.2.2.2.1, b.2.2.2.2.2.1)) hr]
      by_cases h2 : a = 2
      · subst h2
        cases c == 2 <;> cases c == 4 <;> simp
      · by_cases h3 : a = 3
        · subst h3
          cases c == 1 <;> cases c == 2 <;> cases c == 3 <;> cases pIn p 1 99 <;> simp
        · rw [show (a == 2) = false from beq_eq_false_iff_ne.2 h2, show (a == 3) = false from beq_eq_false_iff_ne.2 h3]; rfl
    | a :: c :: p :: q :: l =>
      simp only [List.length_cons]
      rw [show ((((l.length + 1 + 1 + 1 + 1 : Nat) : Int)) == 2) = false from beq_eq_false_iff_ne.2 (by omega), show ((((l.length + 1 + 1 + 1 + 1 : Nat) : Int)) != 3) = true from bne_iff_ne.2 (by omega)]
      rfl
def seenP (b : Bridge) (o : List Int) : Bool := belP o && (match o.drop 3 with
  | [a, c] => a == 1 && pIn c 2 5
  | [a, c, p] => a == 2 && ((c == 1 || c == 3) && pIn p 1 (nPorts b))
  | [a, c, p, q] => (a == 4 && c == 1) && decide (entIx b.2.2.2.1 p q ≥ 0)
  | _ => false)
theorem seenB {b : Bridge} (hb : BLe M b) {o : List Int} (ho : o.length ≤ M) : spec_l18Seen b o = some (seenP b o) := by
  have hr : b.2.2.2.1.length < 9223372036854775807 := by have : b.2.2.2.1.length ≤ 1048576 := hb.2.2.1; omega
  unfold spec_l18Seen seenP
  rw [belB ho, Option.bind_some]
  cases belP o with
  | false => rfl
  | true =>
    simp only [cond_true, Bool.not_true, cond_false, Bool.true_and]
    match o.drop 3 with
    | [] => rfl
    | [a] => rfl
    | [a, c] =>
      rw [show (([a, c].length : Int) == 2) = true from rfl, cond_true, show at? [a, c] 0 = some a from rfl, show at? [a, c] 1 = some c from rfl]
      simp only [Option.bind_some, inS]
      cases a == 1 <;> rfl
    | [a, c, p] =>
      rw [show (([a, c, p].length : Int) == 2) = false from rfl, cond_false, show (([a, c, p].length : Int) == 3) = true from rfl, cond_true, show at? [a, c, p] 0 = some a from rfl, show at? [a, c, p] 1 = some c from rfl, show at? [a, c, p] 2 = some p from rfl]
      simp only [Option.bind_some, inS]
      cases a == 2 <;> cases c == 1 <;> cases c == 3 <;> simp
    | [a, c, p, q] =>
      rw [show (([a, c, p, q].length : Int) == 2) = false from rfl, cond_false, show (([a, c, p, q].length : Int) == 3) = false from rfl, cond_false, show (([a, c, p, q].length : Int) == 4) = true from rfl, cond_true, show at? [a, c, p, q] 0 = some a from rfl, show at? [a, c, p, q] 1 = some c from rfl, show at? [a, c, p, q] 2 = some p from rfl, show at? [a, c, p, q] 3 = some q from rfl]
      simp only [Option.bind_some, entAtXS hr]
      cases a == 4 <;> cases c == 1 <;> simp
    | a :: c :: p :: q :: r :: l =>
      simp only [List.length_cons]
      rw [show ((((l.length + 1 + 1 + 1 + 1 + 1 : Nat) : Int)) == 2) = false from beq_eq_false_iff_ne.2 (by omega), show ((((l.length + 1 + 1 + 1 + 1 + 1 : Nat) : Int)) == 3) = false from beq_eq_false_iff_ne.2 (by omega), show ((((l.length + 1 + 1 + 1 + 1 + 1 : Nat) : Int)) == 4) = false from beq_eq_false_iff_ne.2 (by omega)]
      rfl

structure SOk (b : Bridge) : Prop where
  id : pIn b.1 1 99 = true
  name : b.2.1.length ≤ 10
  n1 : 1 ≤ b.2.2.1.length
  n6 : b.2.2.1.length ≤ 6
  p : ∀ x ∈ b.2.2.1, pPt x = true
  f : pFdb b.2.2.2.1 = true
  c : pCounts b = true
  q : b.2.2.2.2.2.1.length = b.2.2.1.length
  v : b.2.2.2.2.1.length ≤ 6
  s : b.2.2.2.2.1.Pairwise fun r s => r.1 < s.1
  i : ∀ r ∈ b.2.2.2.2.1, pIn r.1 1 99 = true
  h : ∀ r ∈ b.2.2.2.2.1, -9223372036854775808 ≤ r.2.2 ∧ r.2.2 ≤ 9223372036854775807
theorem SOk.f12 {b : Bridge} (h : SOk b) : b.2.2.2.1.length ≤ 12 := by
  have hf := h.f
  unfold pFdb at hf
  simp only [Bool.and_eq_true, decide_eq_true_eq] at hf
  omega
theorem SOk.le {b : Bridge} (h : SOk b) : BLe M b := by
  have h1 := h.name; have h2 := h.n6; have h3 := h.f12; have h4 := h.v; have h5 := h.q
  have hM : M = 1048576 := rfl
  exact ⟨by omega, by omega, by omega, by omega, by omega⟩
theorem BOk.sok {b : Bridge} (h : BOk b) : SOk b := by
  obtain ⟨v1, v2, v3, v4⟩ := h.vt.len
  refine ⟨h.id, h.name, h.n1, h.n6, h.p, h.f, h.c, v3, v4, rows_rise h, fun r hr => ?_, h.w.r⟩
  obtain ⟨k, hk, rfl⟩ := List.getElem_of_mem hr
  have hv := h.v
  unfold pVtab at hv
  simp only [Bool.and_eq_true, Bool.not_eq_true'] at hv
  have hx := List.any_eq_false.1 hv.2.1 k (List.mem_range.2 hk)
  unfold bRow at hx
  simp only [List.getElem?_eq_getElem hk] at hx
  cases hq : pIn b.2.2.2.2.1[k].1 1 99 with
  | true => rfl
  | false => rw [hq] at hx; simp at hx
theorem short3 {o : List Int} (h : o.length ≤ 2) : (∀ lo hi head, numP o lo hi head = false) ∧ belP o = false := by
  refine ⟨fun lo hi head => ?_, ?_⟩
  · unfold numP
    rw [beq_eq_false_iff_ne.2 (by omega), Bool.false_and]
  · unfold belP
    rw [decide_eq_false (by omega), Bool.false_and]
theorem bad3 {x y z : Int} {t : List Int} (h : ¬ (x = 1 ∧ y = 3 ∧ z = 1)) : (∀ lo hi head, numP (x :: y :: z :: t) lo hi head = false) ∧ belP (x :: y :: z :: t) = false := by
  refine ⟨fun lo hi head => ?_, ?_⟩
  · unfold numP
    have : ((x :: y :: z :: t).take (head.length + 3) == [1, 3, 1] ++ head) = false := by
      rw [beq_eq_false_iff_ne]
      intro e
      rw [List.take_succ_cons, List.take_succ_cons, List.take_succ_cons] at e
      simp at e
      exact h ⟨e.1, e.2.1, e.2.2.1⟩
    rw [this, Bool.false_and, Bool.and_false]
  · unfold belP
    have : ((x :: y :: z :: t).take 3 == [1, 3, 1]) = false := by
      rw [beq_eq_false_iff_ne]
      intro e
      simp at e
      exact h e
    rw [this, Bool.and_false]
theorem num1 (t : List Int) (lo hi c : Int) : numP (1 :: 3 :: 1 :: t) lo hi [c] = match t with | [a, x] => a == c && pIn x lo hi | _ => false := by
  match t with
  | [] => simp [numP]
  | [a] => simp [numP]
  | [a, x] => simp [numP]
  | a :: x :: y :: t => simp [numP]
theorem num2 (t : List Int) (lo hi c d : Int) : numP (1 :: 3 :: 1 :: t) lo hi [c, d] = match t with | [a, b, x] => (a == c && b == d) && pIn x lo hi | _ => false := by
  match t with
  | [] => simp [numP]
  | [a] => simp [numP]
  | [a, x] => simp [numP]
  | [a, b, x] => simp [numP]
  | a :: b :: x :: y :: t => simp [numP]
theorem bel3 (t : List Int) : belP (1 :: 3 :: 1 :: t) = decide (0 < t.length) := by
  unfold belP
  rw [show ((1 :: 3 :: 1 :: t).take 3 == [1, 3, 1]) = true from rfl, Bool.and_true]
  simp
theorem in1 (c : Int) : pIn c 1 1 = (c == 1) := by
  unfold pIn
  by_cases h : c = 1
  · subst h; rfl
  · rw [beq_eq_false_iff_ne.2 h]
    simp only [Bool.and_eq_false_iff, decide_eq_false_iff_not]; omega
theorem can_may {b : Bridge} (h : SOk b) (o : List Int) : canP b o = mayP b o := by
  unfold canP mayP
  match o with
  | [] => simp only [(short3 (o := []) (by simp)).1, (short3 (o := []) (by simp)).2]; rfl
  | [x] => simp only [(short3 (o := [x]) (by simp)).1, (short3 (o := [x]) (by simp)).2]; rfl
  | [x, y] => simp only [(short3 (o := [x, y]) (by simp)).1, (short3 (o := [x, y]) (by simp)).2]; rfl
  | x :: y :: z :: t =>
    by_cases h3 : x = 1 ∧ y = 3 ∧ z = 1
    · obtain ⟨rfl, rfl, rfl⟩ := h3
      simp only [num1, num2, bel3, in1]
      match t with
      | [] => rfl
      | [a] => simp
      | [a, c] => simp
      | [a, c, p] =>
        have hp : decide (rowIx (bRows b) p ≥ 0) = true → pIn p 1 99 = true := by
          intro e
          obtain ⟨k, hk, _, e2⟩ := rowIx_some (of_decide_eq_true e)
          rw [← e2]; exact h.i _ (List.getElem_mem hk)
        have e5 : (1 :: 3 :: 1 :: [a, c, p])[5]? = some p := rfl
        rw [e5]
        rw [show decide (0 < [a, c, p].length) = true from rfl, Bool.true_and]
        show (((false : Bool) || ((((a == 2) && (c == 2)) && pIn p 1 (nPorts b)) || ((((a == 2) && (c == 4)) && pIn p 1 (nPorts b)) || ((((a == 3) && (c == 1)) && pIn p 1 99) || (((((a == 3) && (c == 2)) && pIn p 1 99) || (((a == 3) && (c == 3)) && pIn p 1 99)) && decide (rowIx (bRows b) p ≥ 0))))))) = ((a == 2) && (((c == 2) || (c == 4)) && pIn p 1 (nPorts b)) || (a == 3) && ((c == 1) && pIn p 1 99 || ((c == 2) || (c == 3)) && decide (rowIx (bRows b) p ≥ 0)))
        revert hp
        generalize (a == 2) = a2
        generalize (a == 3) = a3
        generalize (c == 1) = c1
        generalize (c == 2) = c2
        generalize (c == 3) = c3
        generalize (c == 4) = c4
        generalize pIn p 1 (nPorts b) = pn
        generalize pIn p 1 99 = pg
        generalize decide (rowIx (bRows b) p ≥ 0) = R
        clear e5
        revert a2 a3 c1 c2 c3 c4 pn pg R
        decide
      | a :: c :: p :: q :: l => simp
    · simp only [(bad3 (t := t) h3).1, (bad3 (t := t) h3).2]; rfl
theorem read_seen {b : Bridge} (h : SOk b) (o : List Int) : readP b o = seenP b o := by
  unfold readP seenP
  match o with
  | [] => simp only [(short3 (o := []) (by simp)).1, (short3 (o := []) (by simp)).2]; rfl
  | [x] => simp only [(short3 (o := [x]) (by simp)).1, (short3 (o := [x]) (by simp)).2]; rfl
  | [x, y] => simp only [(short3 (o := [x, y]) (by simp)).1, (short3 (o := [x, y]) (by simp)).2]; rfl
  | x :: y :: z :: t =>
    by_cases h3 : x = 1 ∧ y = 3 ∧ z = 1
    · obtain ⟨rfl, rfl, rfl⟩ := h3
      simp only [num1, num2, bel3, in1]
      match t with
      | [] => rfl
      | [a] => simp
      | [a, c] => simp
      | [a, c, p] =>
        have e7 : ((1 :: 3 :: 1 :: [a, c, p]).length == 7) = false := rfl
        rw [e7, Bool.false_and, Bool.false_and, Bool.false_or]
        show ((a == 2 && c == 1) && pIn p 1 (nPorts b) || ((a == 2 && c == 3) && pIn p 1 (nPorts b) || false)) = (true && (a == 2 && ((c == 1 || c == 3) && pIn p 1 (nPorts b))))
        cases (a == 2) <;> cases (c == 1) <;> cases (c == 3) <;> simp
      | [a, c, p, q] => simp
      | a :: c :: p :: q :: r :: l => simp
    · simp only [(bad3 (t := t) h3).1, (bad3 (t := t) h3).2]
      rw [Bool.false_or, Bool.false_or, Bool.false_or, Bool.false_and]
      have : ((x :: y :: z :: t).take 5 == [1, 3, 1, 4, 1]) = false := by
        rw [beq_eq_false_iff_ne]
        intro e
        simp at e
        exact h3 ⟨e.1, e.2.1, e.2.2.1⟩
      rw [this, Bool.and_false, Bool.false_and]
def insG (r : Vrow) : Bool → List Vrow → List Vrow
  | false, [] => [r]
  | true, [] => []
  | false, x :: t => if x.1 ≥ r.1 then r :: (if x.1 != r.1 then x :: insG r true t else insG r true t) else x :: insG r false t
  | true, x :: t => if x.1 != r.1 then x :: insG r true t else insG r true t
theorem insG_true {r : Vrow} : ∀ {l : List Vrow}, (∀ x ∈ l, x.1 ≠ r.1) → insG r true l = l
  | [], _ => rfl
  | x :: t, h => by
    unfold insG
    rw [if_pos (bne_iff_ne.2 (h x (by simp))), insG_true fun y hy => h y (List.mem_cons_of_mem _ hy)]
theorem insG_set {r : Vrow} : ∀ {l : List Vrow} {k : Nat} (hk : k < l.length), l.Pairwise (fun r s => r.1 < s.1) → l[k].1 = r.1 → insG r false l = l.set k r
  | x :: t, 0, _, hp, e => by
    have e' : x.1 = r.1 := e
    unfold insG
    rw [if_pos (by omega), if_neg (by simp [e']), insG_true fun y hy => by have := (List.pairwise_cons.1 hp).1 y hy; omega]
    rfl
  | x :: t, k + 1, hk, hp, e => by
    have e' : (t[k]'(by simpa using hk)).1 = r.1 := e
    have := (List.pairwise_cons.1 hp).1 _ (List.getElem_mem (by simpa using hk : k < t.length))
    unfold insG
    rw [if_neg (by omega), insG_set (by simpa using hk) (List.pairwise_cons.1 hp).2 e']
    rfl
theorem insG_at {r : Vrow} : ∀ {l : List Vrow} {d : Nat}, l.Pairwise (fun r s => r.1 < s.1) → (∀ x ∈ l, x.1 ≠ r.1) → (∀ x ∈ l.take d, x.1 ≤ r.1) → (∀ x, l[d]? = some x → ¬ x.1 ≤ r.1) → insG r false l = l.take d ++ r :: l.drop d
  | [], d, _, _, _, _ => by simp [insG]
  | x :: t, 0, hp, hn, _, h2 => by
    have := h2 x rfl
    unfold insG
    rw [if_pos (by omega), if_pos (bne_iff_ne.2 (hn x (by simp))), insG_true fun y hy => hn y (List.mem_cons_of_mem _ hy)]
    rfl
  | x :: t, d + 1, hp, hn, h1, h2 => by
    have a1 := h1 x (by simp)
    have a2 := hn x (by simp)
    unfold insG
    rw [if_neg (by omega), insG_at (d := d) (List.pairwise_cons.1 hp).2 (fun y hy => hn y (List.mem_cons_of_mem _ hy)) (fun y hy => h1 y (by rw [List.take_succ_cons]; exact List.mem_cons_of_mem _ hy)) (fun y hy => h2 y (by simpa using hy))]
    rfl
theorem rowInS {v : Vtab} (r : Vrow) (h1 : v.1.length ≤ 1000) (h2 : v.2.length ≤ 1000) : spec_l9Row v r = some (insG r false v.1, v.2) := by
  unfold spec_l9Row
  rw [app_small (by show 0 + v.2.length ≤ _; omega), Option.bind_some]
  obtain ⟨b, e1, e2⟩ := loop_inv (β := Bool × List Vrow) (step := fun z : Bool × Int × List Vrow => spec_l9Row_l0 v r z.1 z.2.1 z.2.2)
    (fun k z => z.2.1 = (k : Int) ∧ z.2.2 ++ insG r z.1 (v.1.drop k) = insG r false v.1 ∧ z.2.2.length ≤ 2 * k) v.1.length
    (fun z => z.2 ++ insG r z.1 [] = insG r false v.1 ∧ z.2.length ≤ 2000)
    (fun k z hk ⟨z1, z2, z3⟩ => by
      obtain ⟨dn, i, out⟩ := z
      simp only at z1 z2 z3
      subst z1
      left
      have hd : v.1.drop k = v.1[k] :: v.1.drop (k + 1) := List.drop_eq_getElem_cons hk
      have hw : w64 ((k : Int) + 1) = ((k + 1 : Nat) : Int) := w64_nat (by omega)
      have ha : ∀ (x : Vrow), app out [x] = some (out ++ [x]) := fun x => app_small (by show _ + 1 ≤ _; omega)
      have hb : ∀ (x y : Vrow), app (out ++ [x]) [y] = some (out ++ [x] ++ [y]) := fun x y => app_small (by simp only [List.length_append, List.length_cons, List.length_nil]; omega)
      rw [hd] at z2
      generalize hG : insG r false v.1 = G at z2 ⊢
      unfold spec_l9Row_l0
      simp only [dlt (show (k : Int) < (v.1.length : Int) by omega), cond_true, at_nat hk, Option.bind_some, ha, hb, hw]
      cases dn with
      | true =>
        simp only [Bool.not_true, cond_false, Option.bind_some]
        unfold insG at z2
        cases hq : (v.1[k].1 != r.1) with
        | true =>
          rw [hq] at z2
          exact ⟨_, rfl, rfl, by simpa using z2, by simp; omega⟩
        | false =>
          rw [hq] at z2
          exact ⟨_, rfl, rfl, by simpa using z2, by simp; omega⟩
      | false =>
        simp only [Bool.not_false, cond_true, Option.bind_some]
        unfold insG at z2
        by_cases hg : v.1[k].1 ≥ r.1
        · rw [if_pos hg] at z2
          simp only [decide_eq_true hg, cond_true]
          cases hq : (v.1[k].1 != r.1) with
          | true =>
            rw [hq] at z2
            exact ⟨_, rfl, rfl, by simpa using z2, by simp; omega⟩
          | false =>
            rw [hq] at z2
            exact ⟨_, rfl, rfl, by simpa using z2, by simp; omega⟩
        · rw [if_neg hg] at z2
          simp only [decide_eq_false hg, cond_false, bne_iff_ne.2 (show v.1[k].1 ≠ r.1 by omega), cond_true]
          exact ⟨_, rfl, rfl, by simpa using z2, by simp; omega⟩)
    (fun z ⟨z1, z2, z3⟩ => by
      obtain ⟨dn, i, out⟩ := z
      simp only at z1 z2 z3
      subst z1
      rw [List.drop_length] at z2
      refine ⟨(dn, out), ?_, z2, by show out.length ≤ 2000; have : out.length ≤ 2 * v.1.length := z3; omega⟩
      unfold spec_l9Row_l0
      rw [dnlt (by omega), cond_false]) (x := (false, 0, [])) ⟨rfl, rfl, by simp⟩
  rw [e1, Option.bind_some]
  obtain ⟨dn, out⟩ := b
  simp only at e2 ⊢
  cases dn with
  | true =>
    rw [Bool.not_true, cond_false, ← e2.1]; simp [insG]
  | false =>
    rw [Bool.not_false, cond_true, app_small (by show _ + 1 ≤ _; omega), Option.bind_some, ← e2.1]; rfl
theorem withRowX {v : Vtab} (r : Vrow) (h1 : v.1.length ≤ 1000) (h2 : v.2.length ≤ 1000) (hp : v.1.Pairwise fun r s => r.1 < s.1) : impl_withRow v r = some (insG r false v.1, v.2) := by
  unfold impl_withRow
  have hM : M = 1048576 := rfl
  rw [copyVtab ⟨by omega, by omega⟩, Option.bind_some, rowAtX (by omega), Option.bind_some]
  by_cases hr : rowIx v.1 r.1 ≥ 0
  · obtain ⟨k, hk, e1, e2⟩ := rowIx_some hr
    have hx : ix v.1.length (k : Int) = some k := by unfold ix; rw [if_pos (by omega), if_pos (by omega), Int.toNat_natCast]
    rw [decide_eq_true hr, cond_true, e1, hx, Option.bind_some, List.getElem?_eq_getElem hk, Option.bind_some, insG_set hk hp e2]
  · rw [decide_eq_false hr, cond_false]
    have hn := rowIx_none (by omega : rowIx v.1 r.1 < 0)
    obtain ⟨d, e1, k, hk, rfl, e3, e4⟩ := loop_inv (β := Int) (step := fun z => impl_withRow_l0 v r z)
      (fun k z => z = (k : Int) ∧ ∀ x ∈ v.1.take k, x.1 ≤ r.1) v.1.length
      (fun z => ∃ k : Nat, k ≤ v.1.length ∧ z = (k : Int) ∧ (∀ x ∈ v.1.take k, x.1 ≤ r.1) ∧ (∀ x, v.1[k]? = some x → ¬ x.1 ≤ r.1))
      (fun k z hk ⟨z1, z2⟩ => by
        subst z1
        unfold impl_withRow_l0
        simp only [dlt (show (k : Int) < (v.1.length : Int) by omega), cond_true, at_nat hk, Option.bind_some]
        by_cases hq : v.1[k].1 ≤ r.1
        · refine .inl ⟨_, by rw [decide_eq_true hq, cond_true], w64_nat (by omega), fun x hx => ?_⟩
          rw [List.take_add_one, List.getElem?_eq_getElem hk, List.mem_append] at hx
          rcases hx with hx | hx
          · exact z2 x hx
          · simp at hx; subst hx; exact hq
        · refine .inr ⟨_, by rw [decide_eq_false hq, cond_false], k, by omega, rfl, z2, fun x hx => ?_⟩
          rw [List.getElem?_eq_getElem hk] at hx
          cases hx; exact hq)
      (fun z ⟨z1, z2⟩ => by
        subst z1
        refine ⟨(v.1.length : Int), ?_, v.1.length, Nat.le_refl _, rfl, z2, fun x hx => ?_⟩
        · unfold impl_withRow_l0
          rw [dnlt (by omega), cond_false]; rfl
        · rw [List.getElem?_eq_none (Nat.le_refl _)] at hx; cases hx) (x := 0) ⟨rfl, by simp⟩
    rw [e1, Option.bind_some, show (0 : Int) = ((0 : Nat) : Int) from rfl, cut_ok (Nat.zero_le _) hk, Option.bind_some, List.drop_zero]
    have hl : (v.1.take k).length ≤ 1000 := by rw [List.length_take]; omega
    rw [app_small (by simp only [List.length_nil]; omega), Option.bind_some, List.nil_append, app_small (by simp only [List.length_cons, List.length_nil]; omega), Option.bind_some, cut_ok hk (Nat.le_refl _), Option.bind_some, List.take_length, app_small (by simp only [List.length_append, List.length_cons, List.length_nil, List.length_drop]; omega), Option.bind_some, insG_at hp hn e3 e4]
    simp

def Sets (b : Bridge) (m s : Option (Bridge × Int)) : Prop := ∃ r, m = some r ∧ s = some r ∧ SOk r.1 ∧ (r.2 ≠ 0 → r.1 = b)
theorem cutIx_ok {n a b : Nat} (h1 : a ≤ b) (h2 : b ≤ n) : cutIx n (a : Int) (b : Int) = some (a, b) := by
  unfold cutIx
  rw [if_pos (by omega), if_pos (by omega), if_pos (by omega)]; simp
theorem withoutX {v : Vtab} (id : Int) (h1 : v.1.length ≤ 1000) (h2 : v.2.length ≤ 1000) {k : Nat} (hk : k < v.1.length) (e : rowIx v.1 id = (k : Int)) : impl_withoutRow v id = some (v.1.eraseIdx k, v.2) := by
  unfold impl_withoutRow
  have hM : M = 1048576 := rfl
  have hw : w64 ((k : Int) + 1) = ((k + 1 : Nat) : Int) := w64_nat (by omega)
  rw [copyVtab ⟨by omega, by omega⟩, Option.bind_some, rowAtX (by omega), Option.bind_some, e, decide_eq_true (by omega), cond_true, hw, show (0 : Int) = ((0 : Nat) : Int) from rfl, cut_ok (Nat.zero_le _) (by omega), Option.bind_some, app_small (by simp only [List.length_nil, List.length_drop, List.length_take]; omega), Option.bind_some, cut_ok (by omega) (Nat.le_refl _), Option.bind_some, app_small (by simp only [List.length_append, List.length_nil, List.length_drop, List.length_take]; omega), Option.bind_some, List.eraseIdx_eq_take_drop_succ]
  simp
theorem insG_ok {r : Vrow} {l : List Vrow} (hs : l.Pairwise fun r s => r.1 < s.1) (hi : ∀ x ∈ l, pIn x.1 1 99 = true) (hh : ∀ x ∈ l, -9223372036854775808 ≤ x.2.2 ∧ x.2.2 ≤ 9223372036854775807)
    (ri : pIn r.1 1 99 = true) (rh : -9223372036854775808 ≤ r.2.2 ∧ r.2.2 ≤ 9223372036854775807) :
    (insG r false l).Pairwise (fun r s => r.1 < s.1) ∧ (∀ x ∈ insG r false l, pIn x.1 1 99 = true) ∧ (∀ x ∈ insG r false l, -9223372036854775808 ≤ x.2.2 ∧ x.2.2 ≤ 9223372036854775807) := by
  have hm : ∀ {dn : Bool} {l : List Vrow}, ∀ x ∈ insG r dn l, x = r ∨ x ∈ l := by
    intro dn l
    induction l generalizing dn with
    | nil => intro x hx; cases dn <;> simp [insG] at hx; exact .inl hx
    | cons y t ih =>
      intro x hx
      cases dn with
      | true =>
        unfold insG at hx
        split at hx
        · rcases List.mem_cons.1 hx with rfl | hx
          · exact .inr (by simp)
          · rcases ih x hx with e | e
            · exact .inl e
            · exact .inr (List.mem_cons_of_mem _ e)
        · rcases ih x hx with e | e
          · exact .inl e
          · exact .inr (List.mem_cons_of_mem _ e)
      | false =>
        unfold insG at hx
        split at hx
        · rcases List.mem_cons.1 hx with rfl | hx
          · exact .inl rfl
          · split at hx
            · rcases List.mem_cons.1 hx with rfl | hx
              · exact .inr (by simp)
              · rcases ih x hx with e | e
                · exact .inl e
                · exact .inr (List.mem_cons_of_mem _ e)
            · rcases ih x hx with e | e
              · exact .inl e
              · exact .inr (List.mem_cons_of_mem _ e)
        · rcases List.mem_cons.1 hx with rfl | hx
          · exact .inr (by simp)
          · rcases ih x hx with e | e
            · exact .inl e
            · exact .inr (List.mem_cons_of_mem _ e)
  have hp : ∀ {l : List Vrow}, l.Pairwise (fun r s => r.1 < s.1) → (insG r false l).Pairwise (fun r s => r.1 < s.1) := by
    intro l
    induction l with
    | nil => intro _; simp [insG]
    | cons y t ih =>
      intro h
      have h1 := (List.pairwise_cons.1 h).1
      have h2 := (List.pairwise_cons.1 h).2
      unfold insG
      split
      · next hy =>
        have ht : insG r true t = t := insG_true fun z hz => by have := h1 z hz; omega
        rw [ht]
        split
        · next hq =>
          have hq := bne_iff_ne.1 hq
          refine List.pairwise_cons.2 ⟨fun z hz => ?_, h⟩
          rcases List.mem_cons.1 hz with rfl | hz
          · omega
          · have := h1 z hz; omega
        · next hq =>
          have hq : y.1 = r.1 := by simpa using hq
          refine List.pairwise_cons.2 ⟨fun z hz => ?_, h2⟩
          have := h1 z hz; omega
      · next hy =>
        refine List.pairwise_cons.2 ⟨fun z hz => ?_, ih h2⟩
        rcases hm z hz with rfl | hz
        · omega
        · exact h1 z hz
  refine ⟨hp hs, fun x hx => ?_, fun x hx => ?_⟩
  · rcases hm x hx with rfl | hx
    · exact ri
    · exact hi x hx
  · rcases hm x hx with rfl | hx
    · exact rh
    · exact hh x hx
theorem insG_len {r : Vrow} {dn : Bool} {l : List Vrow} : (insG r dn l).length ≤ l.length + 1 := by
  induction l generalizing dn with
  | nil => cases dn <;> simp [insG]
  | cons x t ih =>
    have h1 := ih (dn := true)
    have h2 := ih (dn := false)
    have h3 : (insG r true t).length ≤ t.length := by
      clear ih h1 h2
      induction t with
      | nil => simp [insG]
      | cons y t ih => unfold insG; split <;> simp <;> omega
    cases dn <;> unfold insG <;> split <;> (try split) <;> simp <;> omega
theorem SOk.rows {b : Bridge} (h : SOk b) {R : List Vrow} (h1 : R.length ≤ 6) (h2 : R.Pairwise fun r s => r.1 < s.1) (h3 : ∀ x ∈ R, pIn x.1 1 99 = true) (h4 : ∀ x ∈ R, -9223372036854775808 ≤ x.2.2 ∧ x.2.2 ≤ 9223372036854775807) :
    SOk (b.1, b.2.1, b.2.2.1, b.2.2.2.1, R, b.2.2.2.2.2.1, b.2.2.2.2.2.2.1, b.2.2.2.2.2.2.2.1, b.2.2.2.2.2.2.2.2.1, b.2.2.2.2.2.2.2.2.2.1, b.2.2.2.2.2.2.2.2.2.2) :=
  ⟨h.id, h.name, h.n1, h.n6, h.p, h.f, h.c, h.q, h1, h2, h3, h4⟩
theorem ports6 {b : Bridge} (h : SOk b) : pIn (b.2.2.1.length : Int) 1 6 = true := by
  have h1 := h.n1; have h2 := h.n6
  unfold pIn
  rw [decide_eq_true (by omega), decide_eq_true (by omega)]; rfl
theorem setRowX {b : Bridge} (h : SOk b) (c id n : Int) (hc : (c = 1 ∧ pIn id 1 99 = true) ∨ ((c = 2 ∨ c = 3) ∧ rowIx (bRows b) id ≥ 0)) : Sets b (impl_Bridge_setRow b c id n) (spec_l18Row b c id n) := by
  have hv := h.v
  have hq : b.2.2.2.2.2.1.length ≤ 6 := by have := h.q; have := h.n6; omega
  have hr : ∀ (id : Int), impl_RowAt (b.2.2.2.2.1, b.2.2.2.2.2.1) id = some (rowIx (bRows b) id) := fun id => rowAtX (v := (b.2.2.2.2.1, b.2.2.2.2.2.1)) (by show b.2.2.2.2.1.length < _; omega) id
  have hrs : ∀ (id : Int), spec_RowAt (b.2.2.2.2.1, b.2.2.2.2.2.1) id = some (rowIx (bRows b) id) := hr
  have hw : ∀ (r : Vrow), impl_withRow (b.2.2.2.2.1, b.2.2.2.2.2.1) r = some (insG r false b.2.2.2.2.1, b.2.2.2.2.2.1) := fun r => withRowX (v := (b.2.2.2.2.1, b.2.2.2.2.2.1)) r (by show b.2.2.2.2.1.length ≤ _; omega) (by show b.2.2.2.2.2.1.length ≤ _; omega) h.s
  have hws : ∀ (r : Vrow), spec_l9Row (b.2.2.2.2.1, b.2.2.2.2.2.1) r = some (insG r false b.2.2.2.2.1, b.2.2.2.2.2.1) := fun r => rowInS (v := (b.2.2.2.2.1, b.2.2.2.2.2.1)) r (by show b.2.2.2.2.1.length ≤ _; omega) (by show b.2.2.2.2.2.1.length ≤ _; omega)
  unfold impl_Bridge_setRow spec_l18Row
  rw [hr, Option.bind_some]
  by_cases h1 : c = 1
  · subst h1
    have hid : pIn id 1 99 = true := by rcases hc with hc | hc; exact hc.2; rcases hc.1 with e | e <;> cases e
    unfold spec_l18Status
    rw [hrs]
    simp only [show ((1 : Int) == 1) = true from rfl, cond_true, Option.bind_some, hw, hws]
    by_cases hp : rowIx (bRows b) id ≥ 0
    · have hp' : ¬ rowIx (bRows b) id < 0 := by omega
      simp only [decide_eq_true hp, decide_eq_false hp']
      have e4 : cond (n == 4) (some false) (some false) = some false := by cases (n == 4) <;> rfl
      rw [e4]
      simp only [Option.bind_some, cond_false]
      cases hn : (n == 6) with
      | false =>
        simp only [cond_false, Option.bind_some]
        exact ⟨_, rfl, rfl, h, fun _ => rfl⟩
      | true =>
        obtain ⟨k, hk, e1, e2⟩ := rowIx_some hp
        simp only [cond_true, Option.bind_some]
        have hk' : k < b.2.2.2.2.1.length := hk
        have hw64 : w64 (rowIx (bRows b) id + 1) = ((k + 1 : Nat) : Int) := by rw [e1]; exact w64_nat (by omega)
        have hwo : impl_withoutRow (b.2.2.2.2.1, b.2.2.2.2.2.1) id = some (b.2.2.2.2.1.eraseIdx k, b.2.2.2.2.2.1) := withoutX (v := (b.2.2.2.2.1, b.2.2.2.2.2.1)) id (by show b.2.2.2.2.1.length ≤ _; omega) (by show b.2.2.2.2.2.1.length ≤ _; omega) hk e1
        have hso : (cutIx b.2.2.2.2.1.length 0 (rowIx (bRows b) id)).bind (fun p => (app ([] : List Vrow) ((b.2.2.2.2.1.take p.2).drop p.1)).bind fun zs47 => (cutIx b.2.2.2.2.1.length (w64 (rowIx (bRows b) id + 1)) (b.2.2.2.2.1.length : Int)).bind fun p_1 => (app zs47 ((b.2.2.2.2.1.take p_1.2).drop p_1.1)).bind fun zs54 => some ((b.1, b.2.1, b.2.2.1, b.2.2.2.1, zs54, b.2.2.2.2.2.1, b.2.2.2.2.2.2.1, b.2.2.2.2.2.2.2.1, b.2.2.2.2.2.2.2.2.1, b.2.2.2.2.2.2.2.2.2.1, b.2.2.2.2.2.2.2.2.2.2), (0 : Int)))
          = some ((b.1, b.2.1, b.2.2.1, b.2.2.2.1, b.2.2.2.2.1.eraseIdx k, b.2.2.2.2.2.1, b.2.2.2.2.2.2.1, b.2.2.2.2.2.2.2.1, b.2.2.2.2.2.2.2.2.1, b.2.2.2.2.2.2.2.2.2.1, b.2.2.2.2.2.2.2.2.2.2), 0) := by
          rw [hw64, e1, show (0 : Int) = ((0 : Nat) : Int) from rfl, cutIx_ok (Nat.zero_le _) (by omega), Option.bind_some, app_small (by simp only [List.length_nil, List.length_drop, List.length_take]; omega), Option.bind_some, cutIx_ok (by omega) (Nat.le_refl _), Option.bind_some, app_small (by simp only [List.length_append, List.length_nil, List.length_drop, List.length_take]; omega), Option.bind_some, List.eraseIdx_eq_take_drop_succ]
          simp
        rw [hwo]
        refine ⟨_, rfl, by rw [hso]; rfl, h.rows ?_ ?_ ?_ ?_, fun e => absurd rfl e⟩
        · rw [List.length_eraseIdx]; split <;> omega
        · exact h.s.sublist (List.eraseIdx_sublist _ _)
        · exact fun x hx => h.i x (List.mem_of_mem_eraseIdx hx)
        · exact fun x hx => h.h x (List.mem_of_mem_eraseIdx hx)
    · have hp' : rowIx (bRows b) id < 0 := by omega
      simp only [decide_eq_false hp, decide_eq_true hp']
      have e6 : cond (n == 6) (some false) (some false) = some false := by cases (n == 6) <;> rfl
      rw [e6]
      cases hn : (n == 4) with
      | false =>
        simp only [cond_false, Option.bind_some]
        exact ⟨_, rfl, rfl, h, fun _ => rfl⟩
      | true =>
        simp only [cond_true, Option.bind_some]
        by_cases h6 : (b.2.2.2.2.1.length : Int) < 6
        · simp only [decide_eq_true h6, cond_true]
          obtain ⟨g1, g2, g3⟩ := insG_ok (r := (id, 0, 0)) h.s h.i h.h hid ⟨by show (-9223372036854775808 : Int) ≤ 0; decide, by show (0 : Int) ≤ 9223372036854775807; decide⟩
          have := insG_len (r := (id, 0, 0)) (dn := false) (l := b.2.2.2.2.1)
          exact ⟨_, rfl, rfl, h.rows (by omega) g1 g2 g3, fun e => absurd rfl e⟩
        · simp only [decide_eq_false h6, cond_false, Option.bind_some]
          exact ⟨_, rfl, rfl, h, fun _ => rfl⟩
  · have h23 : c = 2 ∨ c = 3 := by rcases hc with hc | hc; exact absurd hc.1 h1; exact hc.1
    have hp : rowIx (bRows b) id ≥ 0 := by rcases hc with hc | hc; exact absurd hc.1 h1; exact hc.2
    obtain ⟨k, hk, e1, e2⟩ := rowIx_some hp
    have hk' : k < b.2.2.2.2.1.length := hk
    obtain ⟨t, q1, q2⟩ := shlS (ports6 h)
    rw [show (c == 1) = false from beq_eq_false_iff_ne.2 h1]
    simp only [cond_false, allPortsT (ports6 h), q1, Option.bind_some, inT, inS, q2]
    cases hn : pIn n 0 (pTop (b.2.2.1.length : Int)) with
    | false => exact ⟨_, rfl, rfl, h, fun _ => rfl⟩
    | true =>
      have ht := (topLe (ports6 h)).2
      have hnr : -9223372036854775808 ≤ n ∧ n ≤ 9223372036854775807 := by
        unfold pIn at hn
        simp only [Bool.and_eq_true, decide_eq_true_eq] at hn
        omega
      have hx : ix b.2.2.2.2.1.length (k : Int) = some k := ix_nat hk'
      rw [hrs]
      simp only [Bool.not_true, cond_false, Option.bind_some, e1, hx, List.getElem?_eq_getElem hk', hws]
      have hin : ∀ (r : Vrow), r.1 = b.2.2.2.2.1[k].1 → insG r false b.2.2.2.2.1 = b.2.2.2.2.1.set k r := fun r e => insG_set hk' h.s e.symm
      have hki := h.i _ (List.getElem_mem hk')
      have hkh := h.h _ (List.getElem_mem hk')
      have hlen : ∀ (r : Vrow), r.1 = b.2.2.2.2.1[k].1 → (insG r false b.2.2.2.2.1).length ≤ 6 := fun r e => by rw [hin r e, List.length_set]; exact hv
      rcases h23 with rfl | rfl
      · simp only [show ((2 : Int) == 2) = true from rfl, cond_true]
        obtain ⟨g1, g2, g3⟩ := insG_ok (r := (b.2.2.2.2.1[k].1, n, b.2.2.2.2.1[k].2.2)) h.s h.i h.h hki hkh
        refine ⟨_, rfl, ?_, ?_, fun e => absurd rfl e⟩
        · rw [hin (b.2.2.2.2.1[k].1, n, b.2.2.2.2.1[k].2.2) rfl]
        · rw [← hin (b.2.2.2.2.1[k].1, n, b.2.2.2.2.1[k].2.2) rfl]
          exact h.rows (hlen _ rfl) g1 g2 g3
      · simp only [show ((3 : Int) == 2) = false from rfl, cond_false]
        obtain ⟨g1, g2, g3⟩ := insG_ok (r := (b.2.2.2.2.1[k].1, b.2.2.2.2.1[k].2.1, n)) h.s h.i h.h hki hnr
        refine ⟨_, rfl, ?_, ?_, fun e => absurd rfl e⟩
        · rw [hin (b.2.2.2.2.1[k].1, b.2.2.2.2.1[k].2.1, n) rfl]
        · rw [← hin (b.2.2.2.2.1[k].1, b.2.2.2.2.1[k].2.1, n) rfl]
          exact h.rows (hlen _ rfl) g1 g2 g3
theorem may_shape {b : Bridge} {o : List Int} (h : mayP b o = true) : o = [1, 3, 1, 1, 1] ∨ (∃ c p, o = [1, 3, 1, 2, c, p] ∧ (c = 2 ∨ c = 4) ∧ pIn p 1 (nPorts b) = true) ∨ (∃ c p, o = [1, 3, 1, 3, c, p] ∧ ((c = 1 ∧ pIn p 1 99 = true) ∨ ((c = 2 ∨ c = 3) ∧ rowIx (bRows b) p ≥ 0))) := by
  unfold mayP at h
  rw [Bool.and_eq_true] at h
  obtain ⟨h1, h2⟩ := h
  unfold belP at h1
  simp only [Bool.and_eq_true, decide_eq_true_eq, beq_iff_eq] at h1
  have ho : o = [1, 3, 1] ++ o.drop 3 := by rw [← h1.2, List.take_append_drop]
  match hd : o.drop 3, h2 with
  | [a, c], h2 =>
    simp only [Bool.and_eq_true, beq_iff_eq] at h2
    rw [hd] at ho
    exact .inl (by rw [ho, h2.1, h2.2]; rfl)
  | [a, c, p], h2 =>
    rw [hd] at ho
    simp only [Bool.or_eq_true, Bool.and_eq_true, beq_iff_eq, decide_eq_true_eq] at h2
    rcases h2 with ⟨rfl, h3, h4⟩ | ⟨rfl, h3⟩
    · exact .inr (.inl ⟨c, p, ho, h3, h4⟩)
    · exact .inr (.inr ⟨c, p, ho, h3⟩)
theorem portIx {b : Bridge} {p : Int} (h : pIn p 1 (nPorts b) = true) (hn : b.2.2.1.length ≤ 6) : ∃ k, k < b.2.2.1.length ∧ w64 (p - 1) = (k : Int) := by
  unfold pIn nPorts at h
  simp only [Bool.and_eq_true, decide_eq_true_eq] at h
  exact ⟨(p - 1).toNat, by omega, by rw [w64_id (by omega) (by omega)]; omega⟩
theorem pt_cost {p : Pt} {n : Int} (hn : pIn n 1 1000 = true) (h : pPt p = true) : pPt (p.1, n, p.2.2.1, p.2.2.2.1, p.2.2.2.2.1, p.2.2.2.2.2.1, p.2.2.2.2.2.2.1, p.2.2.2.2.2.2.2) = true := by
  unfold pPt at h ⊢
  rw [Bool.and_eq_true] at h ⊢
  exact ⟨hn, h.2⟩
theorem setOne {b : Bridge} (h : SOk b) {x : Bind} (hx : x.1.length ≤ M) : Sets b (impl_Bridge_set b x) (spec_l18One b x) := by
  unfold impl_Bridge_set spec_l18One
  rw [canB h.le hx, Option.bind_some, copyBridgeS h.le, Option.bind_some, mayB h.le hx, Option.bind_some, can_may h]
  cases hm : mayP b x.1 with
  | false =>
    rw [cond_false, Bool.not_false, cond_true, readB h.le hx, seenB h.le hx, Option.bind_some, Option.bind_some, read_seen h]
    cases seenP b x.1 with
    | true => exact ⟨_, rfl, rfl, h, fun _ => rfl⟩
    | false => exact ⟨_, rfl, rfl, h, fun _ => rfl⟩
  | true =>
    obtain ⟨o, kd, n, w, vo⟩ := x
    rw [cond_true, Bool.not_true, cond_false]
    simp only
    unfold impl_Bridge_setThing
    rcases may_shape hm with ho | ⟨c, p, ho, hc, hp⟩ | ⟨c, p, ho, hc⟩
    · simp only at ho
      subst ho
      rw [show at? [1, 3, 1, 1, 1] 3 = some (1 : Int) from rfl, show cut [1, 3, 1, 1, 1] 3 (([1, 3, 1, 1, 1] : List Int).length : Int) = some ([1, 1] : List Int) from rfl]
      simp only [Option.bind_some, show at? [1, 1] 0 = some (1 : Int) from rfl, show ((1 : Int) == 1) = true from rfl, cond_true, Bool.not_true, cond_false]
      cases (kd != 4) with
      | true => exact ⟨_, rfl, rfl, h, fun _ => rfl⟩
      | false =>
        simp only [cond_false, Option.bind_some]
        by_cases hw : (w.length : Int) > 10
        · simp only [decide_eq_true hw, cond_true]
          exact ⟨_, rfl, rfl, h, fun _ => rfl⟩
        · simp only [decide_eq_false hw, cond_false]
          exact ⟨_, rfl, rfl, ⟨h.id, by show w.length ≤ 10; omega, h.n1, h.n6, h.p, h.f, h.c, h.q, h.v, h.s, h.i, h.h⟩, fun e => absurd rfl e⟩
    · simp only at ho
      subst ho
      rw [show at? [1, 3, 1, 2, c, p] 3 = some (2 : Int) from rfl, show at? [1, 3, 1, 2, c, p] 4 = some c from rfl, show at? [1, 3, 1, 2, c, p] 5 = some p from rfl, show cut [1, 3, 1, 2, c, p] 3 (([1, 3, 1, 2, c, p] : List Int).length : Int) = some ([2, c, p] : List Int) from rfl]
      simp only [Option.bind_some, show at? [2, c, p] 0 = some (2 : Int) from rfl, show at? [2, c, p] 1 = some c from rfl, show at? [2, c, p] 2 = some p from rfl, show ((2 : Int) == 1) = false from rfl, show ((2 : Int) == 2) = true from rfl, show ((2 : Int) == 3) = false from rfl, cond_true, Bool.not_false, cond_false]
      cases (kd != 2) with
      | true => exact ⟨_, rfl, rfl, h, fun _ => rfl⟩
      | false =>
        obtain ⟨k, hk, ek⟩ := portIx hp h.n6
        simp only [cond_false, Option.bind_some, ek]
        unfold spec_l18Port
        have hx1 : ix b.2.2.1.length (k : Int) = some k := ix_nat hk
        have hx2 : ix b.2.2.2.2.2.1.length (k : Int) = some k := ix_nat (by rw [h.q]; exact hk)
        have hk2 : k < b.2.2.2.2.2.1.length := by rw [h.q]; exact hk
        simp only [inT, inS, Option.bind_some, hx1, hx2, List.getElem?_eq_getElem hk, List.getElem?_eq_getElem hk2]
        rcases hc with rfl | rfl
        · simp only [show ((2 : Int) == 2) = true from rfl, cond_true]
          cases hn : pIn n 1 1000 with
          | false => exact ⟨_, rfl, rfl, h, fun _ => rfl⟩
          | true =>
            exact ⟨_, rfl, rfl, ⟨h.id, h.name, by simp only [List.length_set]; exact h.n1, by simp only [List.length_set]; exact h.n6, fun y hy => by
              rcases List.mem_or_eq_of_mem_set hy with e | rfl
              · exact h.p y e
              · exact pt_cost hn (h.p _ (List.getElem_mem hk)), h.f, h.c, by simp only [List.length_set]; exact h.q, h.v, h.s, h.i, h.h⟩, fun e => absurd rfl e⟩
        · simp only [show ((4 : Int) == 2) = false from rfl, cond_false]
          exact ⟨_, rfl, rfl, ⟨h.id, h.name, h.n1, h.n6, h.p, h.f, h.c, by simp only [List.length_set]; exact h.q, h.v, h.s, h.i, h.h⟩, fun e => absurd rfl e⟩
    · simp only at ho
      subst ho
      rw [show at? [1, 3, 1, 3, c, p] 3 = some (3 : Int) from rfl, show at? [1, 3, 1, 3, c, p] 4 = some c from rfl, show at? [1, 3, 1, 3, c, p] 5 = some p from rfl, show cut [1, 3, 1, 3, c, p] 3 (([1, 3, 1, 3, c, p] : List Int).length : Int) = some ([3, c, p] : List Int) from rfl]
      simp only [Option.bind_some, show at? [3, c, p] 0 = some (3 : Int) from rfl, show at? [3, c, p] 1 = some c from rfl, show at? [3, c, p] 2 = some p from rfl, show ((3 : Int) == 1) = false from rfl, show ((3 : Int) == 2) = false from rfl, show ((3 : Int) == 3) = true from rfl, cond_true, Bool.not_false, cond_false]
      cases (kd != 2) with
      | true => exact ⟨_, rfl, rfl, h, fun _ => rfl⟩
      | false =>
        simp only [cond_false, Option.bind_some]
        obtain ⟨r, r1, r2, r3, r4⟩ := setRowX h c p n hc
        exact ⟨r, by rw [r1]; rfl, by rw [r2]; rfl, r3, r4⟩

/-- Two loops that go alike. -/
theorem loop_two {α β : Type} {step t : α → Option (α ⊕ β)} (Inv : Nat → α → Prop) (m : Nat) (R : β → Prop)
    (h : ∀ k x, k < m → Inv k x → (∃ y, step x = some (.inl y) ∧ t x = some (.inl y) ∧ Inv (k + 1) y) ∨ ∃ b, step x = some (.inr b) ∧ t x = some (.inr b) ∧ R b)
    (he : ∀ x, Inv m x → ∃ b, step x = some (.inr b) ∧ t x = some (.inr b) ∧ R b) {x : α} (h0 : Inv 0 x) : ∃ b, loop step x = some b ∧ loop t x = some b ∧ R b := by
  have key : ∀ n k x, k + n = m → Inv k x → ∃ b, iter step (n + 1) x = some b ∧ iter t (n + 1) x = some b ∧ R b := by
    intro n
    induction n with
    | zero =>
      intro k x hk hx
      obtain rfl : k = m := by omega
      obtain ⟨b, h1, h3, h2⟩ := he x hx
      exact ⟨b, by rw [iter_succ, h1]; rfl, by rw [iter_succ, h3]; rfl, h2⟩
    | succ n ih =>
      intro k x hk hx
      rcases h k x (by omega) hx with ⟨y, h1, h5, h2⟩ | ⟨b, h1, h5, h2⟩
      · obtain ⟨b, h3, h6, h4⟩ := ih (k + 1) y (by omega) h2
        exact ⟨b, by rw [iter_succ, h1]; exact h3, by rw [iter_succ, h5]; exact h6, h4⟩
      · exact ⟨b, by rw [iter_succ, h1]; rfl, by rw [iter_succ, h5]; rfl, h2⟩
  obtain ⟨b, h1, h3, h2⟩ := key m 0 x (by omega) h0
  exact ⟨b, loop_of h1, loop_of h3, h2⟩
theorem fb_of {l : List Fent} (h : pFdb l = true) : FB l := by
  unfold pFdb at h
  simp only [Bool.and_eq_true, Bool.not_eq_true', decide_eq_true_eq] at h
  refine ⟨fun x hx => ?_, adj_pair (R := lt) (fun _ _ _ => lt_trans) fun k hk => ?_, by omega⟩
  · obtain ⟨k, hk, rfl⟩ := List.getElem_of_mem hx
    have hx := List.any_eq_false.1 h.1 k (List.mem_range.2 hk)
    unfold bFent at hx
    simp only [List.getElem?_eq_getElem hk, Bool.or_eq_true, not_or, Bool.not_eq_true', Bool.not_eq_false] at hx
    exact hx.1
  · have hx := List.any_eq_false.1 h.1 (k + 1) (List.mem_range.2 hk)
    unfold bFent at hx
    simp only [List.getElem?_eq_getElem hk, Nat.add_sub_cancel, List.getElem?_eq_getElem (show k < l.length by omega), Bool.or_eq_true, Bool.and_eq_true, decide_eq_true_eq, not_or, not_and, Bool.not_eq_true', Bool.not_eq_false] at hx
    have hp := hx.2 (by omega)
    unfold pBehind at hp
    simp only [Bool.or_eq_true, Bool.and_eq_true, decide_eq_true_eq, beq_iff_eq] at hp
    unfold lt
    omega
theorem FB.sub {l m : List Fent} (h : FB l) (hs : m.Sublist l) : FB m :=
  ⟨fun x hx => h.e x (hs.subset hx), h.o.sublist hs, Nat.le_trans hs.length_le h.n⟩
def flushF (l : List Fent) (p : Int) : List Fent := l.filter fun e => e.2.2.2.2 || e.2.2.1 != p
theorem flush_loop {l : List Fent} (p : Int) (hn : l.length ≤ 1000) (step : Int × List Fent → Option ((Int × List Fent) ⊕ List Fent))
    (hs : ∀ k (hk : k < l.length) out, step ((k : Int), out) = cond (l[k].2.2.2.2 || l[k].2.2.1 != p) ((app out [l[k]]).bind fun zs => some (.inl (((k + 1 : Nat) : Int), zs))) (some (.inl (((k + 1 : Nat) : Int), out))))
    (he : ∀ out, step ((l.length : Int), out) = some (.inr out)) : loop step (0, []) = some (flushF l p) := by
  obtain ⟨b, h1, rfl⟩ := loop_inv (step := step) (fun k z => z.1 = (k : Int) ∧ z.2 = flushF (l.take k) p) l.length (fun b => b = flushF l p)
    (fun k z hk ⟨z1, z2⟩ => by
      obtain ⟨i, out⟩ := z
      simp only at z1 z2
      subst z1 z2
      left
      have hl : (flushF (l.take k) p).length ≤ k := by
        have := (List.filter_sublist (p := fun e : Fent => e.2.2.2.2 || e.2.2.1 != p) (l := l.take k)).length_le
        rw [List.length_take] at this
        show (List.filter _ _).length ≤ k
        omega
      have ht : flushF (l.take (k + 1)) p = flushF (l.take k) p ++ cond (l[k].2.2.2.2 || l[k].2.2.1 != p) [l[k]] [] := by
        unfold flushF
        rw [List.take_add_one, List.getElem?_eq_getElem hk, List.filter_append]
        rw [Option.toList_some, List.filter_cons, List.filter_nil]
        cases (l[k].2.2.2.2 || l[k].2.2.1 != p) <;> rfl
      rw [hs k hk]
      cases hc : (l[k].2.2.2.2 || l[k].2.2.1 != p) with
      | true =>
        rw [hc] at ht
        exact ⟨_, by rw [cond_true, app_small (by show _ + 1 ≤ _; omega)]; rfl, rfl, by rw [ht]; rfl⟩
      | false =>
        rw [hc] at ht
        exact ⟨_, rfl, rfl, by rw [ht]; simp⟩)
    (fun z ⟨z1, z2⟩ => by
      obtain ⟨i, out⟩ := z
      simp only at z1 z2
      subst z1 z2
      exact ⟨_, he _, by rw [List.take_length]⟩) (x := (0, [])) ⟨rfl, rfl⟩
  exact h1
theorem flushX {l : List Fent} (p : Int) (hn : l.length ≤ 1000) : impl_FlushPort l p = some (flushF l p) := by
  unfold impl_FlushPort
  rw [flush_loop p hn (fun z => impl_FlushPort_l0 l p z.1 z.2) (fun k hk out => by
    show impl_FlushPort_l0 l p (k : Int) out = _
    unfold impl_FlushPort_l0
    rw [dlt (by omega), cond_true, at_nat hk, Option.bind_some, w64_nat (by omega)]
    cases l[k].2.2.2.2 <;> rfl) (fun out => by
    show impl_FlushPort_l0 l p (l.length : Int) out = _
    unfold impl_FlushPort_l0
    rw [dnlt (by omega), cond_false])]; rfl
theorem flushXS {l : List Fent} (p : Int) (hn : l.length ≤ 1000) : spec_FlushPort l p = some (flushF l p) := by
  unfold spec_FlushPort
  rw [flush_loop p hn (fun z => spec_FlushPort_l0 l p z.1 z.2) (fun k hk out => by
    show spec_FlushPort_l0 l p (k : Int) out = _
    unfold spec_FlushPort_l0
    rw [dlt (by omega), cond_true, at_nat hk, Option.bind_some, Option.bind_some, Option.bind_some, w64_nat (by omega)]
    cases l[k].2.2.2.2 <;> rfl) (fun out => by
    show spec_FlushPort_l0 l p (l.length : Int) out = _
    unfold spec_FlushPort_l0
    rw [dnlt (by omega), cond_false])]; rfl
theorem bit_in : ∀ k : Nat, k < 6 → pIn (k : Int) 0 62 = true ∧ pIn (k : Int) 0 7 = true := by
  intro k hk
  unfold pIn
  constructor <;> (rw [decide_eq_true (by omega), decide_eq_true (by omega)]; rfl)
theorem shrK (c : Int) {k : Nat} (hk : k < 6) : ∃ t, shr .i64 c (k : Int) = some t := by
  unfold shr
  rw [if_neg (by omega)]
  exact ⟨_, rfl⟩
theorem bitX (c : Int) {k : Nat} (hk : k < 6) : ∃ t, impl_hasPort c (k : Int) = some t ∧ spec_l9Bit c (k : Int) = some t := by
  obtain ⟨t, h⟩ := shrK c hk
  unfold impl_hasPort spec_l9Bit
  rw [inT, inS, Option.bind_some, Option.bind_some, (bit_in k hk).1, (bit_in k hk).2, cond_true, cond_true, wrap_small (by omega), h]
  exact ⟨_, rfl, rfl⟩
theorem moreX {n : Int} (h : pIn n 0 1000000 = true) : ∃ r, impl_more n = some r ∧ spec_l11One n = some r ∧ pIn r 0 1000000 = true := by
  unfold pIn at h
  simp only [Bool.and_eq_true, decide_eq_true_eq] at h
  unfold impl_more spec_l11One pIn min2
  rw [w64_id (by omega) (by omega)]
  by_cases hn : n ≥ 1000000
  · rw [decide_eq_true hn, cond_true]
    refine ⟨n, ?_, rfl, ?_⟩
    · simp only; split <;> first | rfl | (congr 1; omega)
    · simp only [Bool.and_eq_true, decide_eq_true_eq]; omega
  · rw [decide_eq_false hn, cond_false]
    refine ⟨n + 1, ?_, rfl, ?_⟩
    · simp only; split <;> first | rfl | (congr 1; omega)
    · simp only [Bool.and_eq_true, decide_eq_true_eq]; omega
theorem SOk.ok {b : Bridge} (h : SOk b) (hv : pVtab (b.2.2.2.2.1, b.2.2.2.2.2.1) (b.2.2.1.length : Int) = true) : pBridge b = true := by
  unfold pBridge
  have h1 : (List.range b.2.2.1.length).any (bPt b.2.2.1) = false := by
    rw [List.any_eq_false]
    intro k hk
    have hk := List.mem_range.1 hk
    unfold bPt
    simp [List.getElem?_eq_getElem hk, h.p _ (List.getElem_mem hk)]
  have h2 := h.name
  rw [h1, h.id, h.f, hv, h.c, ports6 h, decide_eq_false (show ¬ (b.2.1.length : Int) > 10 by omega)]; rfl
theorem turnZ {b : Bridge} (h : SOk b) : ∃ r, impl_Bridge_turn b = some r ∧ spec_l11Turned b = some r ∧ SOk r ∧ r.2.2.1 = b.2.2.1 ∧ r.2.2.2.2.1 = b.2.2.2.2.1 ∧ r.2.2.2.2.2.1 = b.2.2.2.2.2.1 ∧ r.1 = b.1 ∧ r.2.1 = b.2.1 ∧ r.2.2.2.2.2.2.1 = b.2.2.2.2.2.2.1 ∧ r.2.2.2.2.2.2.2.1 = b.2.2.2.2.2.2.2.1 ∧ r.2.2.2.2.2.2.2.2.1 = b.2.2.2.2.2.2.2.2.1 ∧ r.2.2.2.2.2.2.2.2.2.1 = b.2.2.2.2.2.2.2.2.2.1 ∧ impl_more b.2.2.2.2.2.2.2.2.2.2 = some r.2.2.2.2.2.2.2.2.2.2 := by
  have n6 := h.n6
  have hc := h.c
  unfold pCounts at hc
  simp only [Bool.and_eq_true] at hc
  obtain ⟨v, v1, v2, v3⟩ := moreX hc.2.2.2.2
  obtain ⟨c, _, c1, c2⟩ := sendsT b.1 (l := b.2.2.1) (by omega)
  unfold impl_Bridge_turn spec_l11Turned
  rw [v1, v2, c1, c2]
  simp only [Option.bind_some]
  have hF := fb_of h.f
  obtain ⟨d, d1, d2, F, hf, rfl⟩ := loop_two (step := fun z : Int × Int × List UInt8 × Int × Int × Int × Int × Int × List Fent => impl_Bridge_turn_l0 b (c : Int) z.1 z.2.1 z.2.2.1 z.2.2.2.1 z.2.2.2.2.1 z.2.2.2.2.2.1 z.2.2.2.2.2.2.1 z.2.2.2.2.2.2.2.1 z.2.2.2.2.2.2.2.2)
    (t := fun z : Int × Int × List UInt8 × Int × Int × Int × Int × Int × List Fent => spec_l11Turned_l0 b (c : Int) z.1 z.2.1 z.2.2.1 z.2.2.2.1 z.2.2.2.2.1 z.2.2.2.2.2.1 z.2.2.2.2.2.2.1 z.2.2.2.2.2.2.2.1 z.2.2.2.2.2.2.2.2)
    (fun k z => ∃ F : List Fent, F.Sublist b.2.2.2.1 ∧ z = ((k : Int), b.1, b.2.1, b.2.2.2.2.2.2.1, b.2.2.2.2.2.2.2.1, b.2.2.2.2.2.2.2.2.1, b.2.2.2.2.2.2.2.2.2.1, v, F)) b.2.2.1.length
    (fun d => ∃ F : List Fent, F.Sublist b.2.2.2.1 ∧ d = (b.1, b.2.1, b.2.2.2.2.2.2.1, b.2.2.2.2.2.2.2.1, b.2.2.2.2.2.2.2.2.1, b.2.2.2.2.2.2.2.2.2.1, v, F))
    (fun k z hk ⟨F, hf, e⟩ => by
      subst e
      left
      obtain ⟨t, t1, t2⟩ := bitX (c : Int) (show k < 6 by omega)
      have hl : F.length ≤ 1000 := by have := hf.length_le; have := hF.n; omega
      simp only
      unfold impl_Bridge_turn_l0 spec_l11Turned_l0
      rw [dlt (show (k : Int) < (b.2.2.1.length : Int) by omega), cond_true, cond_true, t1, t2, Option.bind_some, Option.bind_some, flushX _ hl, flushXS _ hl, w64_nat (show k < 9223372036854775807 by omega)]
      cases t with
      | true => exact ⟨_, rfl, rfl, F, hf, rfl⟩
      | false => exact ⟨_, rfl, rfl, flushF F (k : Int), List.Sublist.trans List.filter_sublist hf, rfl⟩)
    (fun z ⟨F, hf, e⟩ => by
      subst e
      simp only
      unfold impl_Bridge_turn_l0 spec_l11Turned_l0
      rw [dnlt (show ¬ (b.2.2.1.length : Int) < (b.2.2.1.length : Int) by omega), cond_false, cond_false]
      exact ⟨_, rfl, rfl, F, hf, rfl⟩) (x := (0, b.1, b.2.1, b.2.2.2.2.2.2.1, b.2.2.2.2.2.2.2.1, b.2.2.2.2.2.2.2.2.1, b.2.2.2.2.2.2.2.2.2.1, v, b.2.2.2.1)) ⟨_, List.Sublist.refl _, rfl⟩
  rw [d1, d2]
  refine ⟨_, rfl, rfl, ⟨h.id, h.name, h.n1, h.n6, h.p, (hF.sub hf).ok, ?_, h.q, h.v, h.s, h.i, h.h⟩, rfl, rfl, rfl, rfl, rfl, rfl, rfl, rfl, rfl, rfl⟩
  unfold pCounts
  simp only [Bool.and_eq_true]
  exact ⟨hc.1, hc.2.1, hc.2.2.1, hc.2.2.2.1, v3⟩
theorem turnX {b : Bridge} (h : SOk b) : ∃ r, impl_Bridge_turn b = some r ∧ spec_l11Turned b = some r ∧ SOk r ∧ r.2.2.1 = b.2.2.1 ∧ r.2.2.2.2.1 = b.2.2.2.2.1 ∧ r.2.2.2.2.2.1 = b.2.2.2.2.2.1 := by
  obtain ⟨r, h1, h2, h3, h4, h5, h6, _⟩ := turnZ h
  exact ⟨r, h1, h2, h3, h4, h5, h6⟩
theorem beq_flip {α : Type} [BEq α] [LawfulBEq α] (a b : α) : (a == b) = (b == a) := by
  by_cases h : a = b
  · subst h; rfl
  · rw [beq_eq_false_iff_ne.2 h, beq_eq_false_iff_ne.2 (Ne.symm h)]

abbrev SRet := Int × Int × Int × List UInt8 × Int × Int × Int × Int × Int × List Pt × List Fent × List Vrow × List Int
abbrev SIn := Int × List UInt8 × Int × Int × Int × Int × Int
def sRet (c k : Int) (b : Bridge) : SRet := (c, k, b.1, b.2.1, b.2.2.2.2.2.2.1, b.2.2.2.2.2.2.2.1, b.2.2.2.2.2.2.2.2.1, b.2.2.2.2.2.2.2.2.2.1, b.2.2.2.2.2.2.2.2.2.2, b.2.2.1, b.2.2.2.1, b.2.2.2.2.1, b.2.2.2.2.2.1)
theorem twiceX {b : Bridge} (hb : BLe M b) {l : List Bind} (hl : XsLe M l) {k : Nat} (hk : k < l.length) (s : SIn) :
    ∃ r : SIn ⊕ SRet, loop (fun z => impl_SetAll_l2 b (k : Int) l[k] (l.take k) z.1 z.2.1 z.2.2.1 z.2.2.2.1 z.2.2.2.2.1 z.2.2.2.2.2.1 z.2.2.2.2.2.2.1 z.2.2.2.2.2.2.2) (0, s) = some r
      ∧ loop (fun z => spec_SetAll_l2 b l (k : Int) z.1 z.2.1 z.2.2.1 z.2.2.2.1 z.2.2.2.2.1 z.2.2.2.2.2.1 z.2.2.2.2.2.2.1 z.2.2.2.2.2.2.2) (0, s) = some r ∧ ((r = .inl s ∧ ∀ j (hj : j < k), l[j].1 ≠ l[k].1) ∨ (r = .inr (sRet 5 ((k + 1 : Nat) : Int) b) ∧ ∃ j, ∃ hj : j < k, l[j].1 = l[k].1)) := by
  obtain ⟨a0, a1, a6, a7, a8, a9, a10⟩ := s
  have hn : l.length ≤ 1048576 := hl.1
  refine loop_two (fun j z => z = ((j : Int), a0, a1, a6, a7, a8, a9, a10) ∧ ∀ i (hi : i < k), i < j → l[i].1 ≠ l[k].1) k _ (fun j z hj ⟨e, hne⟩ => ?_) (fun z ⟨e, hne⟩ => ?_) ⟨rfl, fun i _ hi => absurd hi (Nat.not_lt_zero _)⟩
  · subst e
    have ht : j < (l.take k).length := by rw [List.length_take]; omega
    have hg : (l.take k)[j] = l[j] := List.getElem_take
    have hw : ∀ i, i < l.length → ∀ (hi : i < l.length), l[i].1.length < 9223372036854775807 := fun i h1 h2 => by have : l[i].1.length ≤ 1048576 := (hl.2 _ (List.getElem_mem h2)).1; omega
    have s1 : impl_SameOid l[k].1 l[j].1 = some (l[k].1 == l[j].1) := sameO (hw j (by omega) (by omega))
    have s2 : spec_SameOid l[j].1 l[k].1 = some (l[k].1 == l[j].1) := by rw [beq_flip]; exact sameO (hw k hk hk)
    simp only
    unfold impl_SetAll_l2 spec_SetAll_l2
    rw [dlt (show (j : Int) < ((l.take k).length : Int) by omega), dlt (show (j : Int) < (k : Int) by omega), cond_true, cond_true, at_nat ht, hg, at_nat (show j < l.length by omega), at_nat hk]
    simp only [Option.bind_some, s1, s2]
    cases hb2 : (l[k].1 == l[j].1) with
    | true =>
      right
      rw [copyBridge hb, copyBridgeS hb]
      exact ⟨_, rfl, by rw [w64_nat (show k < 9223372036854775807 by omega)]; rfl, .inr ⟨by rw [w64_nat (show k < 9223372036854775807 by omega)]; rfl, j, hj, (beq_iff_eq.1 hb2).symm⟩⟩
    | false =>
      left
      refine ⟨_, rfl, rfl, by rw [w64_nat (show j < 9223372036854775807 by omega)], fun i hi hij => ?_⟩
      by_cases e : i = j
      · subst e
        exact fun e => (beq_eq_false_iff_ne.1 hb2) e.symm
      · exact hne i hi (by omega)
  · subst e
    have ht : (l.take k).length = k := by rw [List.length_take]; omega
    refine ⟨.inl (a0, a1, a6, a7, a8, a9, a10), ?_, ?_, .inl ⟨rfl, fun j hj => hne j hj hj⟩⟩
    · show impl_SetAll_l2 b _ _ _ _ _ _ _ _ _ _ _ = _
      unfold impl_SetAll_l2
      rw [ht, dnlt (by omega), cond_false]
    · show spec_SetAll_l2 b _ _ _ _ _ _ _ _ _ _ = _
      unfold spec_SetAll_l2
      rw [dnlt (by omega), cond_false]
theorem loop_end {α β : Type} {step : α → Option (α ⊕ β)} {x : α} {b : β} (h : step x = some (.inr b)) : loop step x = some b := loop_of (k := 1) (by rw [iter_succ, h]; rfl)
/-- What is set one behind the other. -/
inductive Steps (b : Bridge) : List Bind → Bridge → Prop
  | nil : Steps b [] b
  | snoc {l : List Bind} {y y' : Bridge} {x : Bind} : Steps b l y → SOk y → impl_Bridge_set y x = some (y', 0) → Steps b (l ++ [x]) y'
/-- Why it was not done. -/
def Fails (b : Bridge) (l : List Bind) (c : Int) : Prop := (pBridge b = false ∧ c = 3) ∨ (∃ k y, ∃ hk : k < l.length, Steps b (l.take k) y ∧ SOk y ∧ (((∃ j, ∃ hj : j < k, l[j].1 = l[k].1) ∧ c = 5) ∨ ∃ y', impl_Bridge_set y l[k] = some (y', c))) ∨ ∃ y, Steps b l y ∧ c = 5
/-- What setting many comes to: all are done and the bridge is right, or it is as it was. -/
theorem setAllX {b : Bridge} (h : BWf b) (hb : BLe M b) {l : List Bind} (hl : XsLe M l) : ∃ r, impl_SetAll b l = some r ∧ spec_SetAll b l = some r ∧ BLe M r.1 ∧ (pBridge b = true → SOk r.1 ∧ pBridge r.1 = true) ∧ ((r.2.1 = 0 ∧ r.2.2 = 0 ∧ ((l = [] ∧ r.1 = b) ∨ ∃ y, Steps b l y ∧ SOk y ∧ (∀ i (hi : i < l.length), ∀ j (hj : j < i), l[j].1 ≠ l[i].1) ∧ impl_Bridge_turn y = some r.1)) ∨ (r.1 = b ∧ r.2.1 ≠ 0 ∧ 1 ≤ r.2.2 ∧ r.2.2 ≤ (l.length : Int) ∧ Fails b l r.2.1)) := by
  have hn : l.length ≤ 1048576 := hl.1
  unfold impl_SetAll spec_SetAll
  rw [copyBridge hb, copyBridgeS hb, bridgeT h, bridgeS h]
  simp only [Option.bind_some]
  by_cases h0 : l = []
  · subst h0
    have e1 : decide ((([] : List Bind).length : Int) > 0) = false := rfl
    have e2 : ((([] : List Bind).length : Int) == 0) = true := rfl
    have e3 : cond (!pBridge b) (some false) (some false) = some false := by cases pBridge b <;> rfl
    rw [e1, e2, e3, cond_true]
    simp only [Option.bind_some, cond_false]
    refine ⟨_, rfl, (congrArg (fun o => Option.bind o _) (loop_end (b := .inl (0, [], 0, 0, 0, 0, 0, b.1, b.2.1, b.2.2.2.2.2.2.1, b.2.2.2.2.2.2.2.1, b.2.2.2.2.2.2.2.2.1, b.2.2.2.2.2.2.2.2.2.1, b.2.2.2.2.2.2.2.2.2.2, [], [], [], [], b.2.2.1, b.2.2.2.1, b.2.2.2.2.1, b.2.2.2.2.2.1)) rfl)).trans rfl, hb, fun hp => ⟨(bok h hp).sok, hp⟩, .inl ⟨rfl, rfl, .inl ⟨by first | trivial | rfl, rfl⟩⟩⟩
  · have hpos : 0 < l.length := List.length_pos_iff.2 h0
    rw [show ((l.length : Int) == 0) = false from beq_eq_false_iff_ne.2 (by omega), decide_eq_true (show (l.length : Int) > 0 by omega)]
    cases hp : pBridge b with
    | false => exact ⟨_, rfl, rfl, hb, fun hp => (by cases hp), .inr ⟨rfl, (by show (3 : Int) ≠ 0; decide), by show (1 : Int) ≤ 1; decide, by show (1 : Int) ≤ _; omega, .inl ⟨hp, rfl⟩⟩⟩
    | true =>
      have hs0 := (bok h hp).sok
      simp only [Bool.not_true, cond_false, Option.bind_some]
      obtain ⟨d, d1, d2, d3⟩ := loop_two (step := fun z : Int × Int × List UInt8 × Int × Int × Int × Int × Int × Int × List UInt8 × Int × Int × Int × Int × Int × List Pt × List Fent × List Vrow × List Int × List Pt × List Fent × List Vrow × List Int => impl_SetAll_l0 b l z.1 z.2.1 z.2.2.1 z.2.2.2.1 z.2.2.2.2.1 z.2.2.2.2.2.1 z.2.2.2.2.2.2.1 z.2.2.2.2.2.2.2.1 z.2.2.2.2.2.2.2.2.1 z.2.2.2.2.2.2.2.2.2.1 z.2.2.2.2.2.2.2.2.2.2.1 z.2.2.2.2.2.2.2.2.2.2.2.1 z.2.2.2.2.2.2.2.2.2.2.2.2.1 z.2.2.2.2.2.2.2.2.2.2.2.2.2.1 z.2.2.2.2.2.2.2.2.2.2.2.2.2.2.1 z.2.2.2.2.2.2.2.2.2.2.2.2.2.2.2.1 z.2.2.2.2.2.2.2.2.2.2.2.2.2.2.2.2.1 z.2.2.2.2.2.2.2.2.2.2.2.2.2.2.2.2.2.1 z.2.2.2.2.2.2.2.2.2.2.2.2.2.2.2.2.2.2.1 z.2.2.2.2.2.2.2.2.2.2.2.2.2.2.2.2.2.2.2.1 z.2.2.2.2.2.2.2.2.2.2.2.2.2.2.2.2.2.2.2.2.1 z.2.2.2.2.2.2.2.2.2.2.2.2.2.2.2.2.2.2.2.2.2.1 z.2.2.2.2.2.2.2.2.2.2.2.2.2.2.2.2.2.2.2.2.2.2)
        (t := fun z => spec_SetAll_l0 b l z.1 z.2.1 z.2.2.1 z.2.2.2.1 z.2.2.2.2.1 z.2.2.2.2.2.1 z.2.2.2.2.2.2.1 z.2.2.2.2.2.2.2.1 z.2.2.2.2.2.2.2.2.1 z.2.2.2.2.2.2.2.2.2.1 z.2.2.2.2.2.2.2.2.2.2.1 z.2.2.2.2.2.2.2.2.2.2.2.1 z.2.2.2.2.2.2.2.2.2.2.2.2.1 z.2.2.2.2.2.2.2.2.2.2.2.2.2.1 z.2.2.2.2.2.2.2.2.2.2.2.2.2.2.1 z.2.2.2.2.2.2.2.2.2.2.2.2.2.2.2.1 z.2.2.2.2.2.2.2.2.2.2.2.2.2.2.2.2.1 z.2.2.2.2.2.2.2.2.2.2.2.2.2.2.2.2.2.1 z.2.2.2.2.2.2.2.2.2.2.2.2.2.2.2.2.2.2.1 z.2.2.2.2.2.2.2.2.2.2.2.2.2.2.2.2.2.2.2.1 z.2.2.2.2.2.2.2.2.2.2.2.2.2.2.2.2.2.2.2.2.1 z.2.2.2.2.2.2.2.2.2.2.2.2.2.2.2.2.2.2.2.2.2.1 z.2.2.2.2.2.2.2.2.2.2.2.2.2.2.2.2.2.2.2.2.2.2)
        (fun k z => ∃ y : Bridge, (SOk y ∧ Steps b (l.take k) y ∧ ∀ i (hi : i < l.length), i < k → ∀ j (hj : j < i), l[j].1 ≠ l[i].1) ∧ z = ((k : Int), 0, [], 0, 0, 0, 0, 0, y.1, y.2.1, y.2.2.2.2.2.2.1, y.2.2.2.2.2.2.2.1, y.2.2.2.2.2.2.2.2.1, y.2.2.2.2.2.2.2.2.2.1, y.2.2.2.2.2.2.2.2.2.2, [], [], [], [], y.2.2.1, y.2.2.2.1, y.2.2.2.2.1, y.2.2.2.2.2.1)) l.length
        (fun d => (∃ y : Bridge, (SOk y ∧ Steps b l y ∧ ∀ i (hi : i < l.length), ∀ j (hj : j < i), l[j].1 ≠ l[i].1) ∧ d = .inl (0, [], 0, 0, 0, 0, 0, y.1, y.2.1, y.2.2.2.2.2.2.1, y.2.2.2.2.2.2.2.1, y.2.2.2.2.2.2.2.2.1, y.2.2.2.2.2.2.2.2.2.1, y.2.2.2.2.2.2.2.2.2.2, [], [], [], [], y.2.2.1, y.2.2.2.1, y.2.2.2.2.1, y.2.2.2.2.2.1)) ∨ ∃ c k : Int, c ≠ 0 ∧ 1 ≤ k ∧ k ≤ (l.length : Int) ∧ Fails b l c ∧ d = .inr (sRet c k b))
        (fun k z hk ⟨y, ⟨hy, hst, hdi⟩, e⟩ => by
          subst e
          obtain ⟨r, r1, r2, r3⟩ := twiceX hb hl hk (0, [], 0, 0, 0, 0, 0)
          have hc : cut l 0 (k : Int) = some (l.take k) := by rw [show (0 : Int) = ((0 : Nat) : Int) from rfl, cut_ok (Nat.zero_le _) (by omega), List.drop_zero]
          simp only
          unfold impl_SetAll_l0 spec_SetAll_l0
          rw [dlt (show (k : Int) < (l.length : Int) by omega), cond_true, cond_true, at_nat hk, Option.bind_some, hc, Option.bind_some, r1, r2, Option.bind_some, Option.bind_some]
          rcases r3 with ⟨rfl, hnd⟩ | ⟨rfl, hdup⟩
          · obtain ⟨q, q1, q2, q3, q4⟩ := setOne hy (hl.2 _ (List.getElem_mem hk)).1
            have q1' : impl_Bridge_set (y.1, y.2.1, y.2.2.1, y.2.2.2.1, y.2.2.2.2.1, y.2.2.2.2.2.1, y.2.2.2.2.2.2.1, y.2.2.2.2.2.2.2.1, y.2.2.2.2.2.2.2.2.1, y.2.2.2.2.2.2.2.2.2.1, y.2.2.2.2.2.2.2.2.2.2) l[k] = some q := q1
            have q2' : spec_l18One (y.1, y.2.1, y.2.2.1, y.2.2.2.1, y.2.2.2.2.1, y.2.2.2.2.2.1, y.2.2.2.2.2.2.1, y.2.2.2.2.2.2.2.1, y.2.2.2.2.2.2.2.2.1, y.2.2.2.2.2.2.2.2.2.1, y.2.2.2.2.2.2.2.2.2.2) l[k] = some q := q2
            simp only [Sum.elim_inl, Option.bind_some, q1', q2', copyBridge hb, copyBridgeS hb, w64_nat (show k < 9223372036854775807 by omega)]
            cases hq : (q.2 != 0) with
            | true =>
              right
              exact ⟨_, rfl, rfl, .inr ⟨q.2, ((k + 1 : Nat) : Int), bne_iff_ne.1 hq, by omega, by omega, .inr (.inl ⟨k, y, hk, hst, hy, .inr ⟨q.1, q1⟩⟩), rfl⟩⟩
            | false =>
              left
              have hq0 : q.2 = 0 := by simpa using hq
              refine ⟨_, rfl, rfl, q.1, ⟨q3, ?_, fun i hi hik j hj => ?_⟩, rfl⟩
              · rw [List.take_add_one, List.getElem?_eq_getElem hk]
                exact .snoc hst hy (by rw [q1, ← hq0])
              · by_cases e : i = k
                · subst e; exact hnd j hj
                · exact hdi i hi (by omega) j hj
          · right
            exact ⟨_, rfl, rfl, .inr ⟨5, ((k + 1 : Nat) : Int), by decide, by omega, by omega, .inr (.inl ⟨k, y, hk, hst, hy, .inl ⟨hdup, rfl⟩⟩), rfl⟩⟩)
        (fun z ⟨y, ⟨hy, hst, hdi⟩, e⟩ => by
          subst e
          simp only
          unfold impl_SetAll_l0 spec_SetAll_l0
          rw [dnlt (show ¬ (l.length : Int) < (l.length : Int) by omega), cond_false, cond_false]
          rw [List.take_length] at hst
          exact ⟨_, rfl, rfl, .inl ⟨y, ⟨hy, hst, fun i hi => hdi i hi hi⟩, rfl⟩⟩) (x := (0, 0, [], 0, 0, 0, 0, 0, b.1, b.2.1, b.2.2.2.2.2.2.1, b.2.2.2.2.2.2.2.1, b.2.2.2.2.2.2.2.2.1, b.2.2.2.2.2.2.2.2.2.1, b.2.2.2.2.2.2.2.2.2.2, [], [], [], [], b.2.2.1, b.2.2.2.1, b.2.2.2.2.1, b.2.2.2.2.2.1)) ⟨b, ⟨hs0, .nil, fun i _ hi => absurd hi (Nat.not_lt_zero _)⟩, rfl⟩
      rw [d1, d2, Option.bind_some, Option.bind_some]
      rcases d3 with ⟨y, ⟨hy, hst, hdi⟩, rfl⟩ | ⟨c, k, c0, k1, k2, hfl, rfl⟩
      · have n6 := hy.n6; have v6 := hy.v; have hq := hy.q
        have t1 : impl_VtabOk (y.2.2.2.2.1, y.2.2.2.2.2.1) (y.2.2.1.length : Int) = some (pVtab (y.2.2.2.2.1, y.2.2.2.2.2.1) (y.2.2.1.length : Int)) := vtabT (v := (y.2.2.2.2.1, y.2.2.2.2.2.1)) _ (by show y.2.2.2.2.1.length < _; omega) (by show y.2.2.2.2.2.1.length < _; omega)
        have t2 : spec_VtabOk (y.2.2.2.2.1, y.2.2.2.2.2.1) (y.2.2.1.length : Int) = some (pVtab (y.2.2.2.2.1, y.2.2.2.2.2.1) (y.2.2.1.length : Int)) := vtabS (v := (y.2.2.2.2.1, y.2.2.2.2.2.1)) _ (by show y.2.2.2.2.1.length < _; omega) (by show y.2.2.2.2.2.1.length < _; omega) hy.h
        simp only [Sum.elim_inl, t1, t2, Option.bind_some]
        cases hv : pVtab (y.2.2.2.2.1, y.2.2.2.2.2.1) (y.2.2.1.length : Int) with
        | false => exact ⟨_, rfl, rfl, hb, fun _ => ⟨hs0, hp⟩, .inr ⟨rfl, by show (5 : Int) ≠ 0; decide, by show (1 : Int) ≤ (l.length : Int); omega, Int.le_refl _, .inr (.inr ⟨y, hst, rfl⟩)⟩⟩
        | true =>
          obtain ⟨r, r1, r2, r3, r4, r5, r6⟩ := turnX hy
          have r1' : impl_Bridge_turn (y.1, y.2.1, y.2.2.1, y.2.2.2.1, y.2.2.2.2.1, y.2.2.2.2.2.1, y.2.2.2.2.2.2.1, y.2.2.2.2.2.2.2.1, y.2.2.2.2.2.2.2.2.1, y.2.2.2.2.2.2.2.2.2.1, y.2.2.2.2.2.2.2.2.2.2) = some r := r1
          have r2' : spec_l11Turned (y.1, y.2.1, y.2.2.1, y.2.2.2.1, y.2.2.2.2.1, y.2.2.2.2.2.1, y.2.2.2.2.2.2.1, y.2.2.2.2.2.2.2.1, y.2.2.2.2.2.2.2.2.1, y.2.2.2.2.2.2.2.2.2.1, y.2.2.2.2.2.2.2.2.2.2) = some r := r2
          simp only [Bool.not_true, cond_false, r1', r2', Option.bind_some]
          exact ⟨_, rfl, rfl, r3.le, fun _ => ⟨r3, r3.ok (by rw [r4, r5, r6]; exact hv)⟩, .inl ⟨rfl, rfl, .inr ⟨y, hst, hy, hdi, r1⟩⟩⟩
      · simp only [Sum.elim_inr]
        exact ⟨_, rfl, rfl, hb, fun _ => ⟨hs0, hp⟩, .inr ⟨rfl, c0, k1, k2, hfl⟩⟩

theorem BOk.le {b : Bridge} (h : BOk b) : BLe M b := by
  obtain ⟨v1, v2, v3, v4⟩ := h.vt.len
  have h1 := h.name; have h2 := h.n6; have h3 := h.f12
  have v3' : b.2.2.2.2.2.1.length = b.2.2.1.length := v3
  have v4' : b.2.2.2.2.1.length ≤ 6 := v4
  have hM : M = 1048576 := rfl
  exact ⟨by omega, by omega, by omega, by omega, by omega⟩
def Dr {α : Type} (P : α → Prop) (o : Option (L1Cur × α)) : Prop := ∃ c x, o = some (c, x) ∧ CW c ∧ P x
theorem Dr.cond {α : Type} {P : α → Prop} {a b : Option (L1Cur × α)} {t : Bool} (ha : Dr P a) (hb : Dr P b) : Dr P (cond t a b) := by cases t <;> assumption
theorem Dr.bind {α β : Type} {Q : α → Prop} {P : β → Prop} {o : Option (L1Cur × α)} {f : L1Cur × α → Option (L1Cur × β)} (h : Dr Q o) (k : ∀ c x, CW c → Q x → Dr P (f (c, x))) : Dr P (o.bind f) := by
  obtain ⟨c, x, rfl, hc, hx⟩ := h
  exact k c x hc hx
theorem Dr.some {α : Type} {P : α → Prop} {c : L1Cur} {x : α} (hc : CW c) (hx : P x) : Dr P (some (c, x)) := ⟨c, x, rfl, hc, hx⟩
def VSm (v : Val) : Prop := v.2.2.1.length ≤ 100 ∧ v.2.2.2.length ≤ 1000
def XSm (x : Bind) : Prop := x.1.length ≤ 1000 ∧ VSm x.2
theorem XSm.le {x : Bind} (h : XSm x) : XLe M x := by
  have hM : M = 1048576 := rfl
  obtain ⟨h1, h2, h3⟩ := h
  exact ⟨by omega, by omega, by omega⟩
def clip (n : Int) : Int := if n > 2147483647 then 2147483647 else if n < -2147483648 then -2147483648 else n
theorem clip_in (n : Int) : -2147483648 ≤ clip n ∧ clip n ≤ 2147483647 := by unfold clip; split <;> (try split) <;> omega
def intB (m : Int) : List Int := if pIn m (-128) 127 then [m % 256] else if pIn m (-32768) 32767 then [m / 256 % 256, m % 256] else if pIn m (-8388608) 8388607 then [m / 65536 % 256, m / 256 % 256, m % 256] else [m / 16777216 % 256, m / 65536 % 256, m / 256 % 256, m % 256]
theorem w8 (x : Int) : IntKind.u8.wrap x = x % 256 := rfl
theorem fd (m : Int) {k : Int} (hk : 0 ≤ k) : m.fdiv k = m / k := Int.fdiv_eq_ediv_of_nonneg m hk
theorem loop_in {α β : Type} {step : α → Option (α ⊕ β)} {x y : α} {b : β} (h : step x = some (.inl y)) (k : loop step y = some b) : loop step x = some b := by
  obtain ⟨n, hn⟩ := loop_some k
  exact loop_of (k := n + 1) (by rw [iter_succ, h]; exact hn)
theorem putInt {n : Int} (hn : -9223372036854775808 ≤ n ∧ n ≤ 9223372036854775807) : impl_PutInt n = some (intB (clip n)) := by
  unfold impl_PutInt
  have hc : max2 (-2147483648) (min2 n 2147483647) = clip n := by
    unfold max2 min2 clip
    split <;> split <;> (try split) <;> (try split) <;> omega
  rw [hc]
  obtain ⟨h1, h2⟩ := clip_in n
  generalize clip n = m at h1 h2
  simp only
  have a1 : impl_PutInt_l0 m 1 = cond (!(pIn m (-128) 127)) (some (.inl 2)) (some (.inr 1)) := by
    unfold impl_PutInt_l0
    rw [show shl .i64 (-1) (w64 ((w64 (8 * 1)) - 1)) = some (-128) from rfl, show shl .i64 1 (w64 ((w64 (8 * 1)) - 1)) = some 128 from rfl]
    simp only [Option.bind_some, inT]
    rw [show w64 (128 - 1) = 127 from rfl]; cases pIn m (-128) 127 <;> rfl
  have a2 : impl_PutInt_l0 m 2 = cond (!(pIn m (-32768) 32767)) (some (.inl 3)) (some (.inr 2)) := by
    unfold impl_PutInt_l0
    rw [show shl .i64 (-1) (w64 ((w64 (8 * 2)) - 1)) = some (-32768) from rfl, show shl .i64 1 (w64 ((w64 (8 * 2)) - 1)) = some 32768 from rfl]
    simp only [Option.bind_some, inT]
    rw [show w64 (32768 - 1) = 32767 from rfl]; cases pIn m (-32768) 32767 <;> rfl
  have a3 : impl_PutInt_l0 m 3 = cond (!(pIn m (-8388608) 8388607)) (some (.inl 4)) (some (.inr 3)) := by
    unfold impl_PutInt_l0
    rw [show shl .i64 (-1) (w64 ((w64 (8 * 3)) - 1)) = some (-8388608) from rfl, show shl .i64 1 (w64 ((w64 (8 * 3)) - 1)) = some 8388608 from rfl]
    simp only [Option.bind_some, inT]
    rw [show w64 (8388608 - 1) = 8388607 from rfl]; cases pIn m (-8388608) 8388607 <;> rfl
  have a4 : impl_PutInt_l0 m 4 = some (.inr 4) := rfl
  have b3 : ∀ out : List Int, out.length ≤ 10 → impl_PutInt_l2 m 3 out = some (.inl (2, out ++ [m / 16777216 % 256])) := fun out ho => by
    unfold impl_PutInt_l2
    rw [show shr .i64 m (w64 (8 * 3)) = some (m.fdiv (2 ^ 24)) from rfl, Option.bind_some, app_small (by simp; omega), Option.bind_some, w8, fd m (by decide)]; rfl
  have b2 : ∀ out : List Int, out.length ≤ 10 → impl_PutInt_l2 m 2 out = some (.inl (1, out ++ [m / 65536 % 256])) := fun out ho => by
    unfold impl_PutInt_l2
    rw [show shr .i64 m (w64 (8 * 2)) = some (m.fdiv (2 ^ 16)) from rfl, Option.bind_some, app_small (by simp; omega), Option.bind_some, w8, fd m (by decide)]; rfl
  have b1 : ∀ out : List Int, out.length ≤ 10 → impl_PutInt_l2 m 1 out = some (.inl (0, out ++ [m / 256 % 256])) := fun out ho => by
    unfold impl_PutInt_l2
    rw [show shr .i64 m (w64 (8 * 1)) = some (m.fdiv (2 ^ 8)) from rfl, Option.bind_some, app_small (by simp; omega), Option.bind_some, w8, fd m (by decide)]; rfl
  have b0 : ∀ out : List Int, out.length ≤ 10 → impl_PutInt_l2 m 0 out = some (.inl (-1, out ++ [m % 256])) := fun out ho => by
    unfold impl_PutInt_l2
    rw [show shr .i64 m (w64 (8 * 0)) = some (m.fdiv (2 ^ 0)) from rfl, Option.bind_some, app_small (by simp; omega), Option.bind_some, w8, fd m (by decide)]
    simp
    rfl
  have be : ∀ out : List Int, impl_PutInt_l2 m (-1) out = some (.inr out) := fun out => rfl
  have c0 : ∀ out : List Int, out.length ≤ 9 → loop (fun z : Int × List Int => impl_PutInt_l2 m z.1 z.2) (0, out) = some (out ++ [m % 256]) := fun out ho => loop_in (b0 out (by omega)) (loop_end (be _))
  have c1 : ∀ out : List Int, out.length ≤ 8 → loop (fun z : Int × List Int => impl_PutInt_l2 m z.1 z.2) (1, out) = some (out ++ [m / 256 % 256] ++ [m % 256]) := fun out ho => loop_in (b1 out (by omega)) (c0 _ (by simp; omega))
  have c2 : ∀ out : List Int, out.length ≤ 7 → loop (fun z : Int × List Int => impl_PutInt_l2 m z.1 z.2) (2, out) = some (out ++ [m / 65536 % 256] ++ [m / 256 % 256] ++ [m % 256]) := fun out ho => loop_in (b2 out (by omega)) (c1 _ (by simp; omega))
  have c3 : ∀ out : List Int, out.length ≤ 6 → loop (fun z : Int × List Int => impl_PutInt_l2 m z.1 z.2) (3, out) = some (out ++ [m / 16777216 % 256] ++ [m / 65536 % 256] ++ [m / 256 % 256] ++ [m % 256]) := fun out ho => loop_in (b3 out (by omega)) (c2 _ (by simp; omega))
  unfold intB
  cases h8 : pIn m (-128) 127 with
  | true =>
    rw [h8] at a1
    rw [loop_end (step := fun z => impl_PutInt_l0 m z) a1, Option.bind_some, show w64 (1 - 1) = 0 from rfl, c0 [] (by simp)]; rfl
  | false =>
    rw [h8] at a1
    cases h16 : pIn m (-32768) 32767 with
    | true =>
      rw [h16] at a2
      rw [loop_in (step := fun z => impl_PutInt_l0 m z) a1 (loop_end a2), Option.bind_some, show w64 (2 - 1) = 1 from rfl, c1 [] (by simp)]; rfl
    | false =>
      rw [h16] at a2
      cases h24 : pIn m (-8388608) 8388607 with
      | true =>
        rw [h24] at a3
        rw [loop_in (step := fun z => impl_PutInt_l0 m z) a1 (loop_in a2 (loop_end a3)), Option.bind_some, show w64 (3 - 1) = 2 from rfl, c2 [] (by simp)]; rfl
      | false =>
        rw [h24] at a3
        rw [loop_in (step := fun z => impl_PutInt_l0 m z) a1 (loop_in a2 (loop_in a3 (loop_end a4))), Option.bind_some, show w64 (4 - 1) = 3 from rfl, c3 [] (by simp)]; rfl
theorem pIn_true {n a b : Int} (h : pIn n a b = true) : a ≤ n ∧ n ≤ b := by
  unfold pIn at h
  simp only [Bool.and_eq_true, decide_eq_true_eq] at h
  omega
def Byt (b : List Int) : Prop := ∀ x ∈ b, 0 ≤ x ∧ x ≤ 255
def tlvL (t : Int) (body : List Int) : List Int := t :: ((if body.length ≥ 128 then [129, (body.length : Int)] else [(body.length : Int)]) ++ body)
theorem tlvX (t : Int) {body : List Int} (hn : body.length ≤ M) : impl_tlv t body = some (if pIn t 0 255 = true ∧ body.length ≤ 250 then (tlvL t body, true) else ([], false)) := by
  have hn' : body.length ≤ 1048576 := hn
  unfold impl_tlv
  rw [inT, Option.bind_some]
  cases ht : pIn t 0 255 with
  | false => rw [if_neg (by simp)]; rfl
  | true =>
    obtain ⟨t1, t2⟩ := pIn_true ht
    rw [Bool.not_true, cond_false, Option.bind_some]
    by_cases h : (body.length : Int) > 250
    · rw [decide_eq_true h, cond_true, if_neg (by omega)]
    · rw [decide_eq_false h, cond_false, if_pos ⟨rfl, by omega⟩]
      unfold tlvL
      have e1 : IntKind.u8.wrap t = t := by rw [w8]; omega
      have e2 : IntKind.u8.wrap (body.length : Int) = (body.length : Int) := by rw [w8]; omega
      by_cases h8 : (body.length : Int) ≥ 128
      · rw [decide_eq_true h8, cond_true, app_small (by simp), Option.bind_some, app_small (by simp), Option.bind_some, app_small (by simp; omega), Option.bind_some, if_pos (by omega), e1, e2]; rfl
      · rw [decide_eq_false h8, cond_false, app_small (by simp), Option.bind_some, app_small (by simp; omega), Option.bind_some, if_neg (by omega), e1, e2]; rfl
theorem putTlv {b : List Int} (t : Int) {body : List Int} (hb : b.length ≤ 1000) (hn : body.length ≤ M) : impl_PutTlv b t body = some (b ++ if pIn t 0 255 = true ∧ body.length ≤ 250 then tlvL t body else []) := by
  unfold impl_PutTlv
  have hM : M = 1048576 := rfl
  rw [tlvX t hn, Option.bind_some, copyBytes (by omega), Option.bind_some]
  split
  · next h =>
    have : (tlvL t body).length ≤ 300 := by unfold tlvL; split <;> simp <;> omega
    rw [app_small (by show b.length + (tlvL t body).length ≤ _; omega)]; rfl
  · rw [app_small (by show b.length + 0 ≤ _; omega)]; rfl
structure Part (b : List Int) (at' : Int) (t : Int) (body : List Int) (next : Int) : Prop where
  ex : ∃ pre rest, b = pre ++ (tlvL t body ++ rest) ∧ at' = (pre.length : Int) ∧ next = ((pre.length + (tlvL t body).length : Nat) : Int)
  n : body.length ≤ 250
  t : pIn t 0 255 = true
  b : Byt body
def sgn (x : Int) : Int := if x > 127 then x - 256 else x
theorem clip_id {n : Int} (h : -2147483648 ≤ n ∧ n ≤ 2147483647) : clip n = n := by unfold clip; split <;> (try split) <;> omega
theorem i8 {x : Int} (hx : 0 ≤ x ∧ x ≤ 255) : w64 (IntKind.i8.wrap x) = sgn x := by
  have : IntKind.i8.wrap x = sgn x := by
    show (let m := x % 256; if (true && decide (m ≥ 128)) = true then m - 256 else m) = _
    unfold sgn
    simp only [Bool.true_and, decide_eq_true_eq]
    split <;> split <;> omega
  rw [this]
  unfold sgn
  split <;> exact w64_id (by omega) (by omega)
theorem pow64 : ((2 ^ 64 : Nat) : Int) = 18446744073709551616 := by decide
theorem band127 {x : Int} (hx : 0 ≤ x ∧ x < 9223372036854775808) : band .i64 x 127 = x % 128 := by
  show IntKind.i64.wrap (((BitVec.ofInt 64 x &&& BitVec.ofInt 64 127).toNat : Nat) : Int) = _
  rw [BitVec.toNat_and, BitVec.toNat_ofInt, BitVec.toNat_ofInt, pow64]
  have h2 : ((127 : Int) % 18446744073709551616).toNat = 2 ^ 7 - 1 := by decide
  have h1 : (x % 18446744073709551616).toNat = x.toNat := by omega
  rw [h1, h2, Nat.and_two_pow_sub_one_eq_mod]
  show (let z := ((x.toNat % 2 ^ 7 : Nat) : Int) % 18446744073709551616; if (true && decide (z ≥ 9223372036854775808)) = true then z - 18446744073709551616 else z) = _
  simp only [Bool.true_and, decide_eq_true_eq]
  split <;> omega
def grp (n : Int) : List Int := if n ≤ 127 then [n] else if n ≤ 16383 then [n / 128 + 128, n % 128] else if n ≤ 2097151 then [n / 16384 + 128, n / 128 % 128 + 128, n % 128] else [n / 2097152 + 128, n / 16384 % 128 + 128, n / 128 % 128 + 128, n % 128]
def oidB (o : List Int) : List Int := o.flatMap grp
theorem grp_len3 {n : Int} (h : n ≤ 100000) : (grp n).length ≤ 3 := by unfold grp; split <;> (try split) <;> (try split) <;> simp <;> omega
theorem oidB_len {o : List Int} (h : ∀ x ∈ o, x ≤ 100000) : (oidB o).length ≤ 3 * o.length := by
  induction o with
  | nil => simp [oidB]
  | cons x t ih =>
    have h1 := ih fun y hy => h y (List.mem_cons_of_mem _ hy)
    have h2 := grp_len3 (h x (by simp))
    unfold oidB at h1 ⊢
    rw [List.flatMap_cons, List.length_append, List.length_cons]; omega
/-- One number of a name is written. -/
theorem grpI {n : Int} (hn : 0 ≤ n ∧ n ≤ 100000) {out : List Int} (ho : out.length ≤ 100) : ∃ d, loop (fun z => impl_PutOid_l2 n z) 0 = some d ∧ ∃ e, loop (fun z : Int × List Int => impl_PutOid_l4 n z.1 z.2) (d, out) = some e ∧ e.length ≤ 104 ∧ e ++ [IntKind.u8.wrap (band .i64 n 127)] = out ++ grp n := by
  have s0 : impl_PutOid_l2 n 0 = cond (decide (n > 127)) (some (.inl 1)) (some (.inr 0)) := by
    unfold impl_PutOid_l2
    rw [show shr .i64 n (w64 (7 * 0)) = some (n.fdiv (2 ^ 0)) from rfl, Option.bind_some, fd n (by decide), show n / 2 ^ 0 = n by simp]; rfl
  have s1 : impl_PutOid_l2 n 1 = cond (decide (n / 128 > 127)) (some (.inl 2)) (some (.inr 1)) := by
    unfold impl_PutOid_l2
    rw [show shr .i64 n (w64 (7 * 1)) = some (n.fdiv (2 ^ 7)) from rfl, Option.bind_some, fd n (by decide), show (2 : Int) ^ 7 = 128 from rfl]; rfl
  have s2 : impl_PutOid_l2 n 2 = some (.inr 2) := by
    unfold impl_PutOid_l2
    rw [show shr .i64 n (w64 (7 * 2)) = some (n.fdiv (2 ^ 14)) from rfl, Option.bind_some, fd n (by decide), show (2 : Int) ^ 14 = 16384 from rfl, decide_eq_false (by omega)]; rfl
  have t0 : ∀ o : List Int, impl_PutOid_l4 n 0 o = some (.inr o) := fun o => rfl
  have t1 : ∀ o : List Int, o.length ≤ 110 → impl_PutOid_l4 n 1 o = some (.inl (0, o ++ [n / 128 % 128 + 128])) := fun o ho => by
    unfold impl_PutOid_l4
    rw [show shr .i64 n (w64 (7 * 1)) = some (n.fdiv (2 ^ 7)) from rfl, Option.bind_some, fd n (by decide), show (2 : Int) ^ 7 = 128 from rfl, band127 (by omega), w64_id (by omega) (by omega), w8, app_small (by simp; omega), Option.bind_some, show (n / 128 % 128 + 128) % 256 = n / 128 % 128 + 128 by omega]; rfl
  have t2 : ∀ o : List Int, o.length ≤ 110 → impl_PutOid_l4 n 2 o = some (.inl (1, o ++ [n / 16384 % 128 + 128])) := fun o ho => by
    unfold impl_PutOid_l4
    rw [show shr .i64 n (w64 (7 * 2)) = some (n.fdiv (2 ^ 14)) from rfl, Option.bind_some, fd n (by decide), show (2 : Int) ^ 14 = 16384 from rfl, band127 (by omega), w64_id (by omega) (by omega), w8, app_small (by simp; omega), Option.bind_some, show (n / 16384 % 128 + 128) % 256 = n / 16384 % 128 + 128 by omega]; rfl
  rw [band127 (by omega), w8, show n % 128 % 256 = n % 128 by omega]
  unfold grp
  by_cases h1 : n ≤ 127
  · rw [decide_eq_false (by omega)] at s0
    refine ⟨0, loop_end s0, out, loop_end (t0 out), by omega, ?_⟩
    rw [if_pos h1, show n % 128 = n by omega]
  rw [decide_eq_true (by omega)] at s0
  by_cases h2 : n ≤ 16383
  · rw [decide_eq_false (by omega)] at s1
    refine ⟨1, loop_in s0 (loop_end s1), _, loop_in (t1 out (by omega)) (loop_end (t0 _)), by simp; omega, ?_⟩
    rw [if_neg h1, if_pos h2, show n / 128 % 128 = n / 128 by omega]; simp
  rw [decide_eq_true (by omega)] at s1
  refine ⟨2, loop_in s0 (loop_in s1 (loop_end s2)), _, loop_in (t2 out (by omega)) (loop_in (t1 _ (by simp; omega)) (loop_end (t0 _))), by simp; omega, ?_⟩
  rw [if_neg h1, if_neg h2, if_pos (by omega), show n / 16384 % 128 = n / 16384 by omega]; simp
theorem putOid {o : List Int} (hn : o.length ≤ M) : ∃ v, impl_OidOk o = some v ∧ (v = true → 1 ≤ o.length ∧ o.length ≤ 10 ∧ ∀ x ∈ o, 0 ≤ x ∧ x ≤ 100000) ∧ impl_PutOid o = some (cond v (oidB o) []) := by
  have hn' : o.length ≤ 1048576 := hn
  obtain ⟨v, hv, hv2⟩ : ∃ v, impl_OidOk o = some v ∧ (v = true → 1 ≤ o.length ∧ o.length ≤ 10 ∧ ∀ x ∈ o, 0 ≤ x ∧ x ≤ 100000) := by
    unfold impl_OidOk
    obtain ⟨b, h1, h2⟩ := loop_inv (β := Unit ⊕ Bool) (step := fun z => impl_OidOk_l0 o z) (fun k i => i = (k : Int) ∧ ∀ x ∈ o.take k, 0 ≤ x ∧ x ≤ 100000) o.length (fun b => (b = .inl () ∧ ∀ x ∈ o, 0 ≤ x ∧ x ≤ 100000) ∨ b = .inr false)
      (fun k i hk ⟨e, hx⟩ => by
        subst e
        have hs : impl_OidOk_l0 o (k : Int) = cond (!(pIn o[k] 0 100000)) (some (.inr (.inr false))) (some (.inl ((k + 1 : Nat) : Int))) := by
          unfold impl_OidOk_l0
          rw [dlt (by omega), cond_true, at_nat hk, Option.bind_some, inT, Option.bind_some, w64_nat (by omega)]
        cases hp : pIn o[k] 0 100000 with
        | false => exact .inr ⟨_, by rw [hs, hp]; rfl, .inr rfl⟩
        | true =>
          refine .inl ⟨_, by rw [hs, hp]; rfl, rfl, fun x hx' => ?_⟩
          rw [List.take_add_one, List.getElem?_eq_getElem hk, List.mem_append] at hx'
          rcases hx' with hx' | hx'
          · exact hx x hx'
          · simp at hx'; subst hx'; exact pIn_true hp)
      (fun i ⟨e, hx⟩ => by
        subst e
        rw [List.take_length] at hx
        refine ⟨.inl (), ?_, .inl ⟨rfl, hx⟩⟩
        unfold impl_OidOk_l0
        rw [dnlt (by omega), cond_false]) (x := 0) ⟨rfl, by simp⟩
    rw [h1, Option.bind_some]
    rcases h2 with ⟨rfl, hx⟩ | rfl
    · simp only [Sum.elim_inl, inT, Option.bind_some]
      refine ⟨_, rfl, fun h => ?_⟩
      have := pIn_true h
      exact ⟨by omega, by omega, hx⟩
    · exact ⟨false, rfl, fun h => by cases h⟩
  refine ⟨v, hv, hv2, ?_⟩
  unfold impl_PutOid
  rw [hv, Option.bind_some]
  cases v with
  | false => rfl
  | true =>
    obtain ⟨h1, h10, hx⟩ := hv2 rfl
    obtain ⟨b, e1, rfl⟩ := loop_inv (step := fun z : Int × List Int => impl_PutOid_l0 o z.1 z.2) (fun k z => z = ((k : Int), oidB (o.take k))) o.length (fun b => b = oidB o)
      (fun k z hk e => by
        subst e
        left
        have hl : (oidB (o.take k)).length ≤ 30 := by
          have := oidB_len (o := o.take k) fun x hx' => (hx x (List.mem_of_mem_take hx')).2
          rw [List.length_take] at this; omega
        obtain ⟨d, d1, e, e1, e2, e3⟩ := grpI (hx _ (List.getElem_mem hk)) (out := oidB (o.take k)) (by omega)
        have ht : oidB (o.take (k + 1)) = oidB (o.take k) ++ grp o[k] := by
          unfold oidB
          rw [List.take_add_one, List.getElem?_eq_getElem hk, List.flatMap_append]; simp
        refine ⟨_, ?_, rfl⟩
        show impl_PutOid_l0 o (k : Int) (oidB (o.take k)) = _
        unfold impl_PutOid_l0
        rw [dlt (by omega), cond_true, at_nat hk, Option.bind_some, d1, Option.bind_some, e1, Option.bind_some, app_small (by simp; omega), Option.bind_some, w64_nat (by omega), ht, ← e3])
      (fun z e => by
        subst e
        refine ⟨oidB o, ?_, rfl⟩
        show impl_PutOid_l0 o (o.length : Int) (oidB (o.take o.length)) = _
        unfold impl_PutOid_l0
        rw [dnlt (by omega), cond_false, List.take_length]) (x := (0, [])) rfl
    rw [e1]; rfl

def OidR (o : List Int) : Prop := 1 ≤ o.length ∧ o.length ≤ 10 ∧ ∀ x ∈ o, 0 ≤ x ∧ x ≤ 100000
theorem oidR_of {o : List Int} (h : pOid o = true) : OidR o := by
  unfold pOid at h
  rw [Bool.and_eq_true, Bool.not_eq_true'] at h
  have h1 := pIn_true h.2
  refine ⟨by omega, by omega, fun x hx => ?_⟩
  obtain ⟨k, hk, rfl⟩ := List.getElem_of_mem hx
  have := List.any_eq_false.1 h.1 k (List.mem_range.2 hk)
  unfold bOid at this
  simp only [List.getElem?_eq_getElem hk] at this
  cases hp : pIn o[k] 0 100000 with
  | true => exact pIn_true hp
  | false => rw [hp] at this; exact absurd rfl this
theorem putOidX {o : List Int} (hn : o.length ≤ M) : impl_PutOid o = some (cond (pOid o) (oidB o) []) := by
  obtain ⟨v, h1, h2, h3⟩ := putOid hn
  rw [oidT (by have : o.length ≤ 1048576 := hn; omega)] at h1
  cases h1; exact h3
def valB (v : Val) : List Int := cond (v.1 == 2) (intB v.2.1) (cond (v.1 == 4) (intsOf v.2.2.1) (cond (v.1 == 6) (oidB v.2.2.2) []))
theorem oid_len {o : List Int} (h : pOid o = true) : o.length ≤ 10 := (oidR_of h).2.1
theorem Part.next {b : List Int} {i t : Int} {body : List Int} {next : Int} (h : Part b i t body next) : 0 ≤ next ∧ next ≤ (b.length : Int) := by
  obtain ⟨pre, rest, e1, e2, e3⟩ := h.ex
  have := congrArg List.length e1
  rw [List.length_append, List.length_append] at this
  omega
theorem intB_len (n : Int) : (intB n).length ≤ 4 := by unfold intB; split <;> (try split) <;> (try split) <;> simp
theorem tlvL_len (t : Int) {body : List Int} : (tlvL t body).length ≤ body.length + 3 := by unfold tlvL; split <;> simp <;> omega
theorem pVal_len {v : Val} (h : pVal v = true) : (valB v).length ≤ 30 ∧ pIn v.1 0 255 = true ∧ v.2.2.2.length ≤ 10 ∧ v.2.2.1.length ≤ 20 := by
  obtain ⟨k, n, s, o⟩ := v
  have inn : ∀ {x : Int}, 0 ≤ x → x ≤ 255 → pIn x 0 255 = true := fun h1 h2 => by unfold pIn; rw [decide_eq_true h1, decide_eq_true h2]; rfl
  unfold pVal at h
  simp only at h
  unfold valB
  simp only
  by_cases h1 : (k == 5 || (k == 128 || k == 130)) = true
  · rw [h1, cond_true] at h
    simp only [Bool.and_eq_true, beq_iff_eq] at h
    simp only [Bool.or_eq_true, beq_iff_eq] at h1
    obtain ⟨_, rfl, ho⟩ := h
    rcases h1 with rfl | rfl | rfl <;> exact ⟨by simp, by decide, by omega, by simp⟩
  · have h1' : (k == 5 || (k == 128 || k == 130)) = false := by simpa using h1
    rw [h1', cond_false] at h
    by_cases h2 : k = 2
    · subst h2
      simp only [show ((2 : Int) == 2) = true from rfl, cond_true, Bool.and_eq_true, beq_iff_eq] at h ⊢
      obtain ⟨_, rfl, ho⟩ := h
      have := intB_len n
      exact ⟨by omega, by decide, by omega, by simp⟩
    rw [beq_eq_false_iff_ne.2 h2, cond_false] at h ⊢
    by_cases h4 : k = 4
    · subst h4
      simp only [show ((4 : Int) == 4) = true from rfl, cond_true, Bool.and_eq_true, beq_iff_eq, decide_eq_true_eq] at h ⊢
      obtain ⟨h5, _, ho⟩ := h
      exact ⟨by unfold intsOf; rw [List.length_map]; omega, by decide, by omega, by omega⟩
    rw [beq_eq_false_iff_ne.2 h4, cond_false] at h ⊢
    by_cases h6 : k = 6
    · subst h6
      simp only [show ((6 : Int) == 6) = true from rfl, cond_true, Bool.and_eq_true, beq_iff_eq] at h ⊢
      obtain ⟨ho, _, rfl⟩ := h
      obtain ⟨o1, o2, o3⟩ := oidR_of ho
      have := oidB_len (o := o) fun x hx => (o3 x hx).2
      exact ⟨by omega, by decide, by omega, by simp⟩
    · rw [beq_eq_false_iff_ne.2 h6, cond_false] at h
      cases h
theorem putVal {b : List Int} (hb : b.length ≤ 1000) {v : Val} (h : pVal v = true) : impl_PutVal b v = some (b ++ tlvL v.1 (valB v)) := by
  obtain ⟨l1, l2, l3, l4⟩ := pVal_len h
  have hM : M = 1048576 := rfl
  have fin : ∀ body : List Int, valB v = body → impl_PutTlv b v.1 body = some (b ++ tlvL v.1 (valB v)) := fun body e => by
    subst e
    rw [putTlv _ hb (by omega), if_pos ⟨l2, by omega⟩]
  unfold impl_PutVal
  rw [valT (by omega), h, Option.bind_some]
  simp only [Bool.not_true, cond_false]
  by_cases h2 : v.1 = 2
  · have e : valB v = intB v.2.1 := by unfold valB; rw [beq_iff_eq.2 h2]; rfl
    have hr : -2147483648 ≤ v.2.1 ∧ v.2.1 ≤ 2147483647 := by
      unfold pVal at h
      rw [h2] at h
      simp only [show ((2 : Int) == 5) = false from rfl, show ((2 : Int) == 128) = false from rfl, show ((2 : Int) == 130) = false from rfl, Bool.or_self, cond_false, show ((2 : Int) == 2) = true from rfl, cond_true, Bool.and_eq_true] at h
      exact pIn_true h.1
    rw [beq_iff_eq.2 h2, cond_true, putInt (by omega), Option.bind_some, clip_id hr, fin _ e]; rfl
  rw [beq_eq_false_iff_ne.2 h2, cond_false]
  by_cases h4 : v.1 = 4
  · have e : valB v = intsOf v.2.2.1 := by unfold valB; rw [beq_eq_false_iff_ne.2 h2, beq_iff_eq.2 h4]; rfl
    rw [beq_iff_eq.2 h4, cond_true, fin _ e]; rfl
  rw [beq_eq_false_iff_ne.2 h4, cond_false]
  by_cases h6 : v.1 = 6
  · have e : valB v = oidB v.2.2.2 := by unfold valB; rw [beq_eq_false_iff_ne.2 h2, beq_eq_false_iff_ne.2 h4, beq_iff_eq.2 h6]; rfl
    have ho : pOid v.2.2.2 = true := by
      unfold pVal at h
      rw [h6] at h
      simp only [show ((6 : Int) == 5) = false from rfl, show ((6 : Int) == 128) = false from rfl, show ((6 : Int) == 130) = false from rfl, Bool.or_self, cond_false, show ((6 : Int) == 2) = false from rfl, show ((6 : Int) == 4) = false from rfl, show ((6 : Int) == 6) = true from rfl, cond_true, Bool.and_eq_true] at h
      exact h.1
    rw [beq_iff_eq.2 h6, cond_true, putOidX (by omega), ho, cond_true, Option.bind_some, fin _ e]; rfl
  · have e : valB v = [] := by unfold valB; rw [beq_eq_false_iff_ne.2 h2, beq_eq_false_iff_ne.2 h4, beq_eq_false_iff_ne.2 h6]; rfl
    rw [beq_eq_false_iff_ne.2 h6, cond_false, fin _ e]; rfl
def oneB (x : Bind) : List Int := tlvL 6 (oidB x.1) ++ tlvL x.2.1 (valB x.2)
def bindB (x : Bind) : List Int := tlvL 48 (oneB x)
def allB (l : List Bind) : List Int := l.flatMap bindB
def bodyB (p : Pdu) : List Int := tlvL 2 (intB p.2.1) ++ tlvL 2 (intB p.2.2.1) ++ tlvL 2 (intB p.2.2.2.1) ++ tlvL 48 (allB p.2.2.2.2)
theorem pPdu_parts {p : Pdu} (h : pPdu p = true) : (∀ x ∈ p.2.2.2.2, xOk x = true) ∧ p.2.2.2.2.length ≤ 10 ∧ pIn p.1 0 255 = true ∧ (-2147483648 ≤ p.2.1 ∧ p.2.1 ≤ 2147483647) ∧ (0 ≤ p.2.2.1 ∧ p.2.2.1 ≤ 1000) ∧ (0 ≤ p.2.2.2.1 ∧ p.2.2.2.1 ≤ 1000) := by
  obtain ⟨k, id, a, b, l⟩ := p
  unfold pPdu at h
  simp only [Bool.and_eq_true, Bool.not_eq_true', decide_eq_true_eq] at h
  obtain ⟨⟨h1, h2⟩, h3, h4⟩ := h
  refine ⟨fun x hx => ?_, by show l.length ≤ 10; omega, ?_⟩
  · obtain ⟨j, hj, rfl⟩ := List.getElem_of_mem hx
    have hj' : j < l.length := hj
    have := List.any_eq_false.1 h1 j (List.mem_range.2 hj')
    unfold bX at this
    simp only [List.getElem?_eq_getElem hj'] at this
    simpa using this
  · have h4 := pIn_true h4
    by_cases c1 : (k == 162 || k == 165) = true
    · rw [c1, cond_true, Bool.and_eq_true] at h3
      have q1 := pIn_true h3.1
      have q2 := pIn_true h3.2
      simp only [Bool.or_eq_true, beq_iff_eq] at c1
      refine ⟨?_, h4, q1, q2⟩
      rcases c1 with rfl | rfl <;> rfl
    · have c1' : (k == 162 || k == 165) = false := by simpa using c1
      rw [c1', cond_false] at h3
      by_cases c2 : (k == 160 || (k == 161 || k == 163)) = true
      · rw [c2, cond_true, Bool.and_eq_true] at h3
        simp only [beq_iff_eq] at h3
        simp only [Bool.or_eq_true, beq_iff_eq] at c2
        obtain ⟨rfl, rfl⟩ := h3
        refine ⟨?_, h4, by show (0 : Int) ≤ 0 ∧ (0 : Int) ≤ 1000; omega, by show (0 : Int) ≤ 0 ∧ (0 : Int) ≤ 1000; omega⟩
        rcases c2 with rfl | rfl | rfl <;> rfl
      · have c2' : (k == 160 || (k == 161 || k == 163)) = false := by simpa using c2
        rw [c2', cond_false] at h3
        cases h3
theorem bindB_len {x : Bind} (h : xOk x = true) : (oneB x).length ≤ 100 ∧ (bindB x).length ≤ 110 := by
  unfold xOk at h
  rw [Bool.and_eq_true] at h
  obtain ⟨l1, _⟩ := pVal_len h.2
  obtain ⟨o1, o2, o3⟩ := oidR_of h.1
  have h3 := oidB_len (o := x.1) fun y hy => (o3 y hy).2
  have h4 := tlvL_len 6 (body := oidB x.1)
  have h5 := tlvL_len x.2.1 (body := valB x.2)
  have h6 : (oneB x).length ≤ 100 := by unfold oneB; rw [List.length_append]; omega
  have h7 := tlvL_len 48 (body := oneB x)
  exact ⟨h6, by unfold bindB; omega⟩
theorem addNum {b : List Int} (hb : b.length ≤ 900) {n : Int} (hn : -2147483648 ≤ n ∧ n ≤ 2147483647) : impl_addNum b 2 n = some (b ++ tlvL 2 (intB n)) := by
  unfold impl_addNum
  have h4 := intB_len n
  rw [putInt (by omega), Option.bind_some, clip_id hn, putTlv _ (by omega) (by show _ ≤ 1048576; omega), Option.bind_some, if_pos ⟨by decide, by omega⟩]
/-- What a request is written as. -/
theorem putPdu {p : Pdu} (hp : PLe M p) : impl_PutPdu p = some (if pPdu p = true ∧ (allB p.2.2.2.2).length ≤ 250 ∧ (bodyB p).length ≤ 250 then tlvL p.1 (bodyB p) else []) := by
  unfold impl_PutPdu
  rw [pduT hp, Option.bind_some]
  cases h : pPdu p with
  | false => rw [if_neg (by simp)]; rfl
  | true =>
    obtain ⟨h1, h2, h3, h4, h5, h6⟩ := pPdu_parts h
    have hl : ∀ k, (allB (p.2.2.2.2.take k)).length ≤ 110 * k := by
      intro k
      induction k with
      | zero => simp [allB]
      | succ k ih =>
        by_cases hk : k < p.2.2.2.2.length
        · have ht : allB (p.2.2.2.2.take (k + 1)) = allB (p.2.2.2.2.take k) ++ bindB p.2.2.2.2[k] := by
            unfold allB
            rw [List.take_add_one, List.getElem?_eq_getElem hk, List.flatMap_append]; simp
          have := (bindB_len (h1 _ (List.getElem_mem hk))).2
          rw [ht, List.length_append]; omega
        · rw [List.take_of_length_le (by omega)] at ih ⊢; omega
    obtain ⟨b, e1, rfl⟩ := loop_inv (step := fun z : Int × List Int => impl_PutPdu_l0 p z.1 z.2) (fun k z => z = ((k : Int), allB (p.2.2.2.2.take k))) p.2.2.2.2.length (fun b => b = .inl (allB p.2.2.2.2))
      (fun k z hk e => by
        subst e
        left
        have hx := h1 _ (List.getElem_mem hk)
        have hx' := hx
        unfold xOk at hx'
        rw [Bool.and_eq_true] at hx'
        obtain ⟨o1, o2, o3⟩ := oidR_of hx'.1
        have hob := oidB_len (o := p.2.2.2.2[k].1) fun y hy => (o3 y hy).2
        have hlk := hl k
        obtain ⟨b1, b2⟩ := bindB_len hx
        have ht : allB (p.2.2.2.2.take (k + 1)) = allB (p.2.2.2.2.take k) ++ bindB p.2.2.2.2[k] := by
          unfold allB
          rw [List.take_add_one, List.getElem?_eq_getElem hk, List.flatMap_append]; simp
        have ht6 := tlvL_len 6 (body := oidB p.2.2.2.2[k].1)
        refine ⟨_, ?_, rfl⟩
        show impl_PutPdu_l0 p (k : Int) (allB (p.2.2.2.2.take k)) = _
        unfold impl_PutPdu_l0
        rw [dlt (by omega), cond_true, at_nat hk, Option.bind_some, putOidX (by show _ ≤ 1048576; omega), hx'.1, cond_true, Option.bind_some, putTlv _ (by simp) (by show _ ≤ 1048576; omega), if_pos ⟨by decide, by omega⟩, Option.bind_some, List.nil_append, putVal (by omega) hx'.2, Option.bind_some]
        have hone : tlvL 6 (oidB p.2.2.2.2[k].1) ++ tlvL p.2.2.2.2[k].2.1 (valB p.2.2.2.2[k].2) = oneB p.2.2.2.2[k] := rfl
        rw [hone, tlvX _ (by show _ ≤ 1048576; omega), if_pos ⟨by decide, by omega⟩, Option.bind_some]
        simp only [Bool.not_true, cond_false]
        have hbb : tlvL 48 (oneB p.2.2.2.2[k]) = bindB p.2.2.2.2[k] := rfl
        rw [hbb, app_small (by omega), Option.bind_some, w64_nat (by omega), ht])
      (fun z e => by
        subst e
        refine ⟨_, ?_, rfl⟩
        show impl_PutPdu_l0 p (p.2.2.2.2.length : Int) (allB (p.2.2.2.2.take p.2.2.2.2.length)) = _
        unfold impl_PutPdu_l0
        rw [dnlt (by omega), cond_false, List.take_length]) (x := (0, [])) rfl
    have hal : (allB p.2.2.2.2).length ≤ 1100 := by
      have := hl p.2.2.2.2.length
      rw [List.take_length] at this; omega
    rw [Bool.not_true, cond_false, e1, Option.bind_some, Sum.elim_inl, tlvX _ (by show _ ≤ 1048576; omega)]
    by_cases ha : (allB p.2.2.2.2).length ≤ 250
    · rw [if_pos ⟨by decide, ha⟩, Option.bind_some]
      simp only [Bool.not_true, cond_false]
      have t1 := tlvL_len 2 (body := intB p.2.1)
      have t2 := tlvL_len 2 (body := intB p.2.2.1)
      have t3 := tlvL_len 2 (body := intB p.2.2.2.1)
      have t4 := tlvL_len 48 (body := allB p.2.2.2.2)
      have i1 := intB_len p.2.1
      have i2 := intB_len p.2.2.1
      have i3 := intB_len p.2.2.2.1
      rw [addNum (by simp) h4, Option.bind_some, List.nil_append, addNum (by omega) ⟨by omega, by omega⟩, Option.bind_some, addNum (by rw [List.length_append]; omega) ⟨by omega, by omega⟩, Option.bind_some, app_small (by simp only [List.length_append]; omega), Option.bind_some]
      have hbody : tlvL 2 (intB p.2.1) ++ tlvL 2 (intB p.2.2.1) ++ tlvL 2 (intB p.2.2.2.1) ++ tlvL 48 (allB p.2.2.2.2) = bodyB p := rfl
      rw [hbody, tlvX _ (by show _ ≤ 1048576; unfold bodyB; simp only [List.length_append]; omega)]
      by_cases hb : (bodyB p).length ≤ 250
      · rw [if_pos ⟨h3, hb⟩, if_pos ⟨by first | rfl | trivial, ha, hb⟩]; rfl
      · rw [if_neg (fun e => hb e.2), if_neg (fun e => hb e.2.2)]; rfl
    · rw [if_neg (fun e => ha e.2), if_neg (fun e => ha e.2.1)]; rfl

theorem Part.cons {b P s : List Int} {i t : Int} {x : List Int} {next : Int} (h : Part b i t x next) (e : b = P ++ s) (hi : i = (P.length : Int)) : ∃ s', b = (P ++ tlvL t x) ++ s' ∧ next = ((P ++ tlvL t x).length : Int) := by
  obtain ⟨pre, rest, e1, e2, e3⟩ := h.ex
  have hl : pre.length = P.length := by omega
  obtain ⟨q1, q2⟩ := List.append_inj (e1.symm.trans e) hl
  subst q1
  exact ⟨rest, by rw [e1, List.append_assoc], by rw [e3, List.length_append]⟩
theorem bind_small {x : Bind} (h : xOk x = true) : XLe M x := by
  unfold xOk at h
  rw [Bool.and_eq_true] at h
  obtain ⟨_, _, l3, l4⟩ := pVal_len h.2
  have := oid_len h.1
  have hM : M = 1048576 := rfl
  exact ⟨by omega, by omega, by omega⟩
theorem PLe.of {p : Pdu} (h : ∀ x ∈ p.2.2.2.2, xOk x = true) (h2 : p.2.2.2.2.length ≤ 11) : PLe M p := ⟨by show _ ≤ 1048576; omega, fun x hx => bind_small (h x hx)⟩
def pduB (p : Pdu) : List Int := if pPdu p = true ∧ (allB p.2.2.2.2).length ≤ 250 ∧ (bodyB p).length ≤ 250 then tlvL p.1 (bodyB p) else []
def fitP (p : Pdu) : Bool := pIn ((pduB p).length : Int) 1 120
theorem fitsT {p : Pdu} (hp : PLe M p) : impl_Fits p = some (fitP p) := by
  unfold impl_Fits
  rw [putPdu hp, Option.bind_some]
  show (impl_in ((pduB p).length : Int) 1 120).bind _ = _
  rw [inT, Option.bind_some]; rfl
theorem map_loop {α β : Type} {l : List α} {g : α → β} {step : Int × List β → Option ((Int × List β) ⊕ List β)} (hn : l.length ≤ M)
    (h1 : ∀ k (hk : k < l.length) (out : List β), out.length = k → step ((k : Int), out) = some (.inl (((k + 1 : Nat) : Int), out ++ [g l[k]]))) (h2 : ∀ out, step ((l.length : Int), out) = some (.inr out)) : loop step (0, []) = some (l.map g) := by
  obtain ⟨b, e1, rfl⟩ := loop_inv (step := step) (fun k z => z = ((k : Int), (l.take k).map g)) l.length (fun b => b = l.map g)
    (fun k z hk e => by
      subst e
      refine .inl ⟨_, h1 k hk _ (by rw [List.length_map, List.length_take]; omega), ?_⟩
      rw [List.take_add_one, List.getElem?_eq_getElem hk, List.map_append]; rfl)
    (fun z e => by
      subst e
      exact ⟨_, h2 _, by rw [List.take_length]⟩) (x := (0, [])) rfl
  exact e1
noncomputable def nextV (b : Bridge) (o : List Int) : Bind := (impl_MibNext b o).getD ([], 0, 0, [], [])
noncomputable def getV (b : Bridge) (o : List Int) : Val := (impl_MibGet b o).getD (0, 0, [], [])
theorem nextE {b : Bridge} (h : BOk b) {o : List Int} (ho : o.length ≤ 1000) : impl_MibNext b o = some (nextV b o) ∧ ((nextV b o ∈ mib b ∧ o < (nextV b o).1) ∨ (nextV b o = (o, 130, 0, [], []) ∧ ∀ x ∈ mib b, ¬ o < x.1)) := by
  obtain ⟨j, hj⟩ := at_of (mib_pair h) o
  have e := nextX h ho hj
  unfold nextV
  rw [e]
  refine ⟨rfl, ?_⟩
  by_cases hl : j < (mib b).length
  · rw [dif_pos hl]
    exact .inl ⟨List.getElem_mem hl, hj.yes j hl (Nat.le_refl _)⟩
  · rw [dif_neg hl]
    refine .inr ⟨rfl, fun x hx => ?_⟩
    obtain ⟨i, hi, rfl⟩ := List.getElem_of_mem hx
    exact hj.no i hi (by omega)
theorem getE {b : Bridge} (h : BOk b) {o : List Int} (ho : o.length < 9223372036854775807) : impl_MibGet b o = some (getV b o) ∧ ((∃ x ∈ mib b, x.1 = o ∧ getV b o = x.2) ∨ ((∀ x ∈ mib b, x.1 ≠ o) ∧ getV b o = (128, 0, [], []))) := by
  obtain ⟨v, e, hv⟩ := getX h ho
  unfold getV
  rw [e]
  exact ⟨rfl, hv⟩
theorem nm_pOid {o : List Int} (h : Nm o) : pOid o = true := by
  have h1 := h.ok
  rw [oidT (by have := h.n10; omega)] at h1
  exact Option.some.inj h1
theorem vl_pVal {v : Val} (h : Vl v) : pVal v = true := by
  have h1 := h.ok
  rw [valT (by rw [h.o]; show 0 ≤ 1048576; omega)] at h1
  exact Option.some.inj h1
theorem pOid_len {o : List Int} (h : pOid o = true) : o.length ≤ 10 := (oidR_of h).2.1
theorem mibOk {b : Bridge} (h : BOk b) {x : Bind} (hx : x ∈ mib b) : xOk x = true := by
  obtain ⟨h1, h2⟩ := mib_each h x hx
  unfold xOk
  rw [nm_pOid h1, vl_pVal h2]; rfl
theorem nextOk {b : Bridge} (h : BOk b) {o : List Int} (ho : pOid o = true) : xOk (nextV b o) = true := by
  obtain ⟨_, h1⟩ := nextE h (o := o) (by have := pOid_len ho; omega)
  rcases h1 with ⟨h1, _⟩ | ⟨h1, _⟩
  · exact mibOk h h1
  · rw [h1]; unfold xOk; rw [ho]; rfl
theorem xOk_oid {x : Bind} (h : xOk x = true) : pOid x.1 = true := by
  unfold xOk at h; rw [Bool.and_eq_true] at h; exact h.1
theorem getOk {b : Bridge} (h : BOk b) {o : List Int} (ho : o.length < 9223372036854775807) : pVal (getV b o) = true := by
  obtain ⟨_, h1⟩ := getE h ho
  rcases h1 with ⟨x, hx, _, e⟩ | ⟨_, e⟩
  · rw [e]; exact vl_pVal (mib_each h x hx).2
  · rw [e]; rfl
def innL (s : List Bind × List (List Int)) : Nat := min s.2.length (10 - s.1.length)
noncomputable def inn (b : Bridge) (s : List Bind × List (List Int)) : List Bind × List (List Int) := (s.1 ++ (s.2.take (innL s)).map (nextV b), (s.2.take (innL s)).map (fun o => (nextV b o).1) ++ s.2.drop (innL s))
noncomputable def rnds (b : Bridge) : Nat → List Bind × List (List Int) → List Bind × List (List Int)
  | 0, s => s
  | k + 1, s => if 0 < s.2.length ∧ s.1.length < 10 then rnds b k (inn b s) else s
structure BkOk (s : List Bind × List (List Int)) : Prop where
  o10 : s.1.length ≤ 10
  l10 : s.2.length ≤ 10
  oOk : ∀ x ∈ s.1, xOk x = true
  lOk : ∀ o ∈ s.2, pOid o = true
theorem inn_ok {b : Bridge} (h : BOk b) {s : List Bind × List (List Int)} (hs : BkOk s) : BkOk (inn b s) := by
  obtain ⟨h1, h2, h3, h4⟩ := hs
  refine ⟨?_, ?_, fun x hx => ?_, fun o ho => ?_⟩
  · show (s.1 ++ _).length ≤ 10
    rw [List.length_append, List.length_map, List.length_take]; unfold innL; omega
  · show (_ ++ s.2.drop (innL s)).length ≤ 10
    rw [List.length_append, List.length_map, List.length_take, List.length_drop]; unfold innL; omega
  · rcases List.mem_append.1 hx with hx | hx
    · exact h3 x hx
    · obtain ⟨o, ho, rfl⟩ := List.mem_map.1 hx
      exact nextOk h (h4 o (List.mem_of_mem_take ho))
  · rcases List.mem_append.1 ho with ho | ho
    · obtain ⟨q, hq, rfl⟩ := List.mem_map.1 ho
      exact xOk_oid (nextOk h (h4 q (List.mem_of_mem_take hq)))
    · exact h4 o (List.mem_of_mem_drop ho)
theorem innX {b : Bridge} (h : BOk b) {s : List Bind × List (List Int)} (hs : BkOk s) : loop (fun z => impl_bulk_l6 b s.2 z.1 z.2.1 z.2.2) (0, s.1, s.2) = some (inn b s) := by
  obtain ⟨out, l⟩ := s
  obtain ⟨h1, h2, h3, h4⟩ := hs
  simp only at h1 h2 h3 h4
  have hm : innL (out, l) = min l.length (10 - out.length) := rfl
  obtain ⟨v, e1, rfl⟩ := loop_inv (step := fun z : Int × List Bind × List (List Int) => impl_bulk_l6 b l z.1 z.2.1 z.2.2) (fun k z => z = ((k : Int), out ++ (l.take k).map (nextV b), (l.take k).map (fun o => (nextV b o).1) ++ l.drop k)) (innL (out, l)) (fun v => v = inn b (out, l))
    (fun k z hk e => by
      subst e
      left
      have hkl : k < l.length := by omega
      have hlen : ((l.take k).map (fun o => (nextV b o).1) ++ l.drop k).length = l.length := by rw [List.length_append, List.length_map, List.length_take, List.length_drop]; omega
      have hol : (out ++ (l.take k).map (nextV b)).length = out.length + k := by rw [List.length_append, List.length_map, List.length_take]; omega
      have hA : ((l.take k).map (fun o => (nextV b o).1)).length = k := by rw [List.length_map, List.length_take]; omega
      have hget : ((l.take k).map (fun o => (nextV b o).1) ++ l.drop k)[k]? = some l[k] := by
        rw [List.getElem?_append_right (by omega), hA, Nat.sub_self, List.getElem?_drop, Nat.add_zero, List.getElem?_eq_getElem hkl]
      have hn := (nextE h (o := l[k]) (by have := pOid_len (h4 _ (List.getElem_mem hkl)); omega)).1
      refine ⟨_, ?_, rfl⟩
      show impl_bulk_l6 b l (k : Int) _ _ = _
      unfold impl_bulk_l6
      rw [dlt (by omega), cond_true, hol, decide_eq_false (by omega), cond_false, hlen, ix_nat hkl]
      simp only [Option.bind_some, hget, hn]
      rw [app_small (by rw [hol]; show out.length + k + 1 ≤ _; omega), Option.bind_some, w64_nat (by omega)]
      have t1 : (l.take (k + 1)) = l.take k ++ [l[k]] := by rw [List.take_add_one, List.getElem?_eq_getElem hkl]; rfl
      have t2 : ((l.take k).map (fun o => (nextV b o).1) ++ l.drop k).set k (nextV b l[k]).1 = (l.take (k + 1)).map (fun o => (nextV b o).1) ++ l.drop (k + 1) := by
        rw [List.set_append_right _ _ (by omega), hA, Nat.sub_self, List.drop_eq_getElem_cons hkl, List.set_cons_zero, t1, List.map_append, List.append_assoc]; rfl
      rw [t2, t1]; simp only [List.map_append, List.map_cons, List.map_nil, List.append_assoc])
    (fun z e => by
      subst e
      refine ⟨_, ?_, rfl⟩
      show impl_bulk_l6 b l ((innL (out, l) : Nat) : Int) _ _ = _
      have hol : (out ++ (l.take (innL (out, l))).map (nextV b)).length = out.length + innL (out, l) := by rw [List.length_append, List.length_map, List.length_take]; omega
      unfold impl_bulk_l6
      rw [hol]
      by_cases hlt : ((innL (out, l) : Nat) : Int) < (l.length : Int)
      · rw [dlt hlt, cond_true, decide_eq_true (by omega), cond_true]; rfl
      · rw [dnlt hlt, cond_false]; rfl) (x := (0, out, l)) (by simp)
  exact e1
theorem rnds_ok {b : Bridge} (h : BOk b) : ∀ (n : Nat) {s : List Bind × List (List Int)}, BkOk s → BkOk (rnds b n s)
  | 0, s, hs => hs
  | n + 1, s, hs => by
    unfold rnds
    split
    · exact rnds_ok h n (inn_ok h hs)
    · exact hs
theorem rndsX {b : Bridge} (h : BOk b) {p : Pdu} (hB : p.2.2.2.1 ≤ 1000) : ∀ (n i : Nat) {s : List Bind × List (List Int)}, BkOk s → ((i + n : Nat) : Int) = p.2.2.2.1 → loop (fun z => impl_bulk_l4 b p z.1 z.2.1 z.2.2) ((i : Int), s.1, s.2) = some (rnds b n s)
  | 0, i, s, hs, e => by
    refine loop_end ?_
    show impl_bulk_l4 b p (i : Int) s.1 s.2 = _
    unfold impl_bulk_l4
    rw [dnlt (by omega), cond_false, Option.bind_some, cond_false, Option.bind_some, cond_false]; rfl
  | n + 1, i, s, hs, e => by
    by_cases hc : 0 < s.2.length ∧ s.1.length < 10
    · refine loop_in (y := (((i + 1 : Nat) : Int), (inn b s).1, (inn b s).2)) ?_ ?_
      · show impl_bulk_l4 b p (i : Int) s.1 s.2 = _
        unfold impl_bulk_l4
        rw [dlt (by omega), cond_true, decide_eq_true (by omega), Option.bind_some, cond_true, dlt (by omega), Option.bind_some, cond_true, innX h hs, Option.bind_some, w64_nat (by omega)]
      · have := rndsX h hB n (i + 1) (inn_ok h hs) (by omega)
        rw [this, show rnds b (n + 1) s = rnds b n (inn b s) from if_pos hc]
    · refine loop_end ?_
      show impl_bulk_l4 b p (i : Int) s.1 s.2 = _
      have e2 : rnds b (n + 1) s = s := if_neg hc
      rw [e2]
      unfold impl_bulk_l4
      rw [dlt (by omega), cond_true]
      by_cases h1 : 0 < s.2.length
      · rw [decide_eq_true (by omega), Option.bind_some, cond_true, dnlt (by omega), Option.bind_some, cond_false]
      · rw [decide_eq_false (by omega), Option.bind_some, cond_false, Option.bind_some, cond_false]
def onceN (p : Pdu) : Nat := min p.2.2.1.toNat p.2.2.2.2.length
noncomputable def bulkS (b : Bridge) (p : Pdu) : List Bind × List (List Int) := rnds b p.2.2.2.1.toNat ((p.2.2.2.2.take (onceN p)).map (fun x => nextV b x.1), (p.2.2.2.2.drop (onceN p)).map (fun x => x.1))
noncomputable def bulkV (b : Bridge) (p : Pdu) : List Bind := (bulkS b p).1
theorem bulk0 {b : Bridge} (h : BOk b) {p : Pdu} (hp : pPdu p = true) : BkOk ((p.2.2.2.2.take (onceN p)).map (fun x => nextV b x.1), (p.2.2.2.2.drop (onceN p)).map (fun x => x.1)) := by
  obtain ⟨h1, h2, _⟩ := pPdu_parts hp
  refine ⟨?_, ?_, fun x hx => ?_, fun o ho => ?_⟩
  · rw [List.length_map, List.length_take]; omega
  · rw [List.length_map, List.length_drop]; omega
  · obtain ⟨y, hy, rfl⟩ := List.mem_map.1 hx
    exact nextOk h (xOk_oid (h1 y (List.mem_of_mem_take hy)))
  · obtain ⟨y, hy, rfl⟩ := List.mem_map.1 ho
    exact xOk_oid (h1 y (List.mem_of_mem_drop hy))
theorem bulk_ok {b : Bridge} (h : BOk b) {p : Pdu} (hp : pPdu p = true) : BkOk (bulkS b p) := rnds_ok h _ (bulk0 h hp)
theorem bulkX {b : Bridge} (h : BOk b) {p : Pdu} (hp : pPdu p = true) : impl_bulk b p = some (bulkV b p) := by
  obtain ⟨h1, h2, _, _, h5, h6⟩ := pPdu_parts hp
  have hmin : min2 p.2.2.1 (p.2.2.2.2.length : Int) = ((onceN p : Nat) : Int) := by
    unfold min2 onceN
    split <;> omega
  have hon : onceN p ≤ p.2.2.2.2.length := Nat.min_le_right _ _
  unfold impl_bulk
  show ((cut p.2.2.2.2 0 (min2 p.2.2.1 (p.2.2.2.2.length : Int))).bind _) = _
  rw [hmin]
  have c1 : cut p.2.2.2.2 0 ((onceN p : Nat) : Int) = some (p.2.2.2.2.take (onceN p)) := by
    have := cut_ok (l := p.2.2.2.2) (a := 0) (b := onceN p) (by omega) hon
    simpa using this
  have c2 : cut p.2.2.2.2 ((onceN p : Nat) : Int) (p.2.2.2.2.length : Int) = some (p.2.2.2.2.drop (onceN p)) := by
    have := cut_ok (l := p.2.2.2.2) (a := onceN p) (b := p.2.2.2.2.length) hon (Nat.le_refl _)
    rw [List.take_length] at this; exact this
  have l1 : loop (fun z : Int × List Bind => impl_bulk_l0 b (p.2.2.2.2.take (onceN p)) z.1 z.2) (0, []) = some ((p.2.2.2.2.take (onceN p)).map (fun x => nextV b x.1)) := by
    refine map_loop (by show _ ≤ 1048576; rw [List.length_take]; omega) (fun k hk out ho => ?_) (fun out => ?_)
    · have hx := h1 _ (List.mem_of_mem_take (List.getElem_mem hk))
      have hk' := hk
      rw [List.length_take] at hk'
      show impl_bulk_l0 b _ (k : Int) out = _
      unfold impl_bulk_l0
      rw [dlt (by omega), cond_true, at_nat hk, Option.bind_some, (nextE h (by have := pOid_len (xOk_oid hx); omega)).1, Option.bind_some, app_small (by rw [ho]; show k + 1 ≤ _; omega), Option.bind_some, w64_nat (by omega)]
    · show impl_bulk_l0 b _ ((p.2.2.2.2.take (onceN p)).length : Int) out = _
      unfold impl_bulk_l0
      rw [dnlt (by omega), cond_false]
  have l2 : loop (fun z : Int × List (List Int) => impl_bulk_l2 (p.2.2.2.2.drop (onceN p)) z.1 z.2) (0, []) = some ((p.2.2.2.2.drop (onceN p)).map (fun x => x.1)) := by
    refine map_loop (by show _ ≤ 1048576; rw [List.length_drop]; omega) (fun k hk out ho => ?_) (fun out => ?_)
    · have hk' := hk
      rw [List.length_drop] at hk'
      show impl_bulk_l2 _ (k : Int) out = _
      unfold impl_bulk_l2
      rw [dlt (by omega), cond_true, at_nat hk, Option.bind_some, app_small (by rw [ho]; show k + 1 ≤ _; omega), Option.bind_some, w64_nat (by omega)]
    · show impl_bulk_l2 _ ((p.2.2.2.2.drop (onceN p)).length : Int) out = _
      unfold impl_bulk_l2
      rw [dnlt (by omega), cond_false]
  rw [c1, Option.bind_some, l1, Option.bind_some, c2, Option.bind_some, l2, Option.bind_some]
  have := rndsX h (p := p) (by omega) p.2.2.2.1.toNat 0 (bulk0 h hp) (by omega)
  have this : loop (fun z => impl_bulk_l4 b p z.1 z.2.1 z.2.2) (0, (p.2.2.2.2.take (onceN p)).map (fun x => nextV b x.1), (p.2.2.2.2.drop (onceN p)).map (fun x => x.1)) = _ := this
  rw [this, Option.bind_some]; rfl
def shr (f : List Bind → Bool) : Nat → List Bind → Option (List Bind)
  | 0, _ => none
  | n + 1, l => if f (l.take n) = true then some (l.take n) else shr f n (l.take n)
theorem bind_end {α β γ δ : Type} {step : α → Option (α ⊕ (β ⊕ δ))} {x : α} {F : β → Option γ} {G : δ → Option γ} {R : Option γ} (h : ∃ d, step x = some (.inr (.inl d))) (k : ∀ d, F d = R) : (loop step x).bind (Sum.elim F G) = R := by
  obtain ⟨d, h⟩ := h
  rw [loop_end h, Option.bind_some, Sum.elim_inl, k]
abbrev S32 := Int × List UInt8 × Int × Int × Int × Int × Int × Int × Int × Int × Int × Int × List UInt8 × Int × Int × Int × Int × Int × Int × Int × Int × Int × List Bind × List Pt × List Fent × List Vrow × List Int × List Bind × List Pt × List Fent × List Vrow × List Int
theorem shrX {p : Pdu} (h165 : (p.1 == 165) = true) (b : Bridge) (j0 : Int) (j1 : List UInt8) (j2 j3 j4 j5 j6 j7 j8 j9 j10 : Int) (k i a c : Int) (j11 : List Pt) (j12 : List Fent) (j13 : List Vrow) (j14 : List Int) (j15 : List Bind) : ∀ (n : Nat) (l : List Bind), l.length = n → n ≤ 10 → (∀ x ∈ l, XLe M x) →
    ∃ w, loop (fun z : S32 => impl_ReplyOf_l5_2 p z.1 z.2.1 z.2.2.1 z.2.2.2.1 z.2.2.2.2.1 z.2.2.2.2.2.1 z.2.2.2.2.2.2.1 z.2.2.2.2.2.2.2.1 z.2.2.2.2.2.2.2.2.1 z.2.2.2.2.2.2.2.2.2.1 z.2.2.2.2.2.2.2.2.2.2.1 z.2.2.2.2.2.2.2.2.2.2.2.1 z.2.2.2.2.2.2.2.2.2.2.2.2.1 z.2.2.2.2.2.2.2.2.2.2.2.2.2.1 z.2.2.2.2.2.2.2.2.2.2.2.2.2.2.1 z.2.2.2.2.2.2.2.2.2.2.2.2.2.2.2.1 z.2.2.2.2.2.2.2.2.2.2.2.2.2.2.2.2.1 z.2.2.2.2.2.2.2.2.2.2.2.2.2.2.2.2.2.1 z.2.2.2.2.2.2.2.2.2.2.2.2.2.2.2.2.2.2.1 z.2.2.2.2.2.2.2.2.2.2.2.2.2.2.2.2.2.2.2.1 z.2.2.2.2.2.2.2.2.2.2.2.2.2.2.2.2.2.2.2.2.1 z.2.2.2.2.2.2.2.2.2.2.2.2.2.2.2.2.2.2.2.2.2.1 z.2.2.2.2.2.2.2.2.2.2.2.2.2.2.2.2.2.2.2.2.2.2.1 z.2.2.2.2.2.2.2.2.2.2.2.2.2.2.2.2.2.2.2.2.2.2.2.1 z.2.2.2.2.2.2.2.2.2.2.2.2.2.2.2.2.2.2.2.2.2.2.2.2.1 z.2.2.2.2.2.2.2.2.2.2.2.2.2.2.2.2.2.2.2.2.2.2.2.2.2.1 z.2.2.2.2.2.2.2.2.2.2.2.2.2.2.2.2.2.2.2.2.2.2.2.2.2.2.1 z.2.2.2.2.2.2.2.2.2.2.2.2.2.2.2.2.2.2.2.2.2.2.2.2.2.2.2.1 z.2.2.2.2.2.2.2.2.2.2.2.2.2.2.2.2.2.2.2.2.2.2.2.2.2.2.2.2.1 z.2.2.2.2.2.2.2.2.2.2.2.2.2.2.2.2.2.2.2.2.2.2.2.2.2.2.2.2.2.1 z.2.2.2.2.2.2.2.2.2.2.2.2.2.2.2.2.2.2.2.2.2.2.2.2.2.2.2.2.2.2.1 z.2.2.2.2.2.2.2.2.2.2.2.2.2.2.2.2.2.2.2.2.2.2.2.2.2.2.2.2.2.2.2) (j0, j1, j2, j3, j4, j5, j6, j7, j8, j9, j10, b.1, b.2.1, b.2.2.2.2.2.2.1, b.2.2.2.2.2.2.2.1, b.2.2.2.2.2.2.2.2.1, b.2.2.2.2.2.2.2.2.2.1, b.2.2.2.2.2.2.2.2.2.2, k, i, a, c, l, j11, j12, j13, j14, j15, b.2.2.1, b.2.2.2.1, b.2.2.2.2.1, b.2.2.2.2.2.1) = some w ∧ (match shr (fun t => fitP (k, i, a, c, t)) n l with | some t => w = .inr (true, b.1, b.2.1, b.2.2.2.2.2.2.1, b.2.2.2.2.2.2.2.1, b.2.2.2.2.2.2.2.2.1, b.2.2.2.2.2.2.2.2.2.1, b.2.2.2.2.2.2.2.2.2.2, k, i, a, c, t, b.2.2.1, b.2.2.2.1, b.2.2.2.2.1, b.2.2.2.2.2.1) | none => ∃ d, w = .inl d)
  | 0, l, hl, hn, hx => by
    refine ⟨_, loop_end (b := Sum.inl (j0, j1, j2, j3, j4, j5, j6, j7, j8, j9, j10, b.1, b.2.1, b.2.2.2.2.2.2.1, b.2.2.2.2.2.2.2.1, b.2.2.2.2.2.2.2.2.1, b.2.2.2.2.2.2.2.2.2.1, b.2.2.2.2.2.2.2.2.2.2, k, i, a, c, l, j11, j12, j13, j14, j15, b.2.2.1, b.2.2.2.1, b.2.2.2.2.1, b.2.2.2.2.2.1)) ?_, ⟨_, rfl⟩⟩
    dsimp only
    unfold impl_ReplyOf_l5_2
    rw [h165, cond_true, decide_eq_false (by omega), Option.bind_some, cond_false]
  | n + 1, l, hl, hn, hx => by
    have hlt : (l.take n).length = n := by rw [List.length_take]; omega
    have hcut : cut l 0 (w64 ((l.length : Int) - 1)) = some (l.take n) := by
      rw [w64_id (by omega) (by omega), show (l.length : Int) - 1 = (n : Int) by omega]
      have := cut_ok (l := l) (a := 0) (b := n) (by omega) (by omega)
      simpa using this
    have hp : PLe M (k, i, a, c, l.take n) := ⟨by show (l.take n).length ≤ 1048576; omega, fun x h => hx x (List.mem_of_mem_take h)⟩
    have hstep : ∀ q : Bool, fitP (k, i, a, c, l.take n) = q → impl_ReplyOf_l5_2 p j0 j1 j2 j3 j4 j5 j6 j7 j8 j9 j10 b.1 b.2.1 b.2.2.2.2.2.2.1 b.2.2.2.2.2.2.2.1 b.2.2.2.2.2.2.2.2.1 b.2.2.2.2.2.2.2.2.2.1 b.2.2.2.2.2.2.2.2.2.2 k i a c l j11 j12 j13 j14 j15 b.2.2.1 b.2.2.2.1 b.2.2.2.2.1 b.2.2.2.2.2.1 = cond q (some (.inr (.inr (true, b.1, b.2.1, b.2.2.2.2.2.2.1, b.2.2.2.2.2.2.2.1, b.2.2.2.2.2.2.2.2.1, b.2.2.2.2.2.2.2.2.2.1, b.2.2.2.2.2.2.2.2.2.2, k, i, a, c, l.take n, b.2.2.1, b.2.2.2.1, b.2.2.2.2.1, b.2.2.2.2.2.1)))) (some (.inl (j0, j1, j2, j3, j4, j5, j6, j7, j8, j9, j10, b.1, b.2.1, b.2.2.2.2.2.2.1, b.2.2.2.2.2.2.2.1, b.2.2.2.2.2.2.2.2.1, b.2.2.2.2.2.2.2.2.2.1, b.2.2.2.2.2.2.2.2.2.2, k, i, a, c, l.take n, j11, j12, j13, j14, j15, b.2.2.1, b.2.2.2.1, b.2.2.2.2.1, b.2.2.2.2.2.1))) := by
      intro q hq
      unfold impl_ReplyOf_l5_2
      rw [h165, cond_true, decide_eq_true (by omega), Option.bind_some, cond_true, hcut, Option.bind_some, fitsT hp, Option.bind_some, hq]
    by_cases hf : fitP (k, i, a, c, l.take n) = true
    · have e : shr (fun t => fitP (k, i, a, c, t)) (n + 1) l = some (l.take n) := if_pos hf
      rw [e]
      exact ⟨_, loop_end (hstep true hf), rfl⟩
    · have e : shr (fun t => fitP (k, i, a, c, t)) (n + 1) l = shr (fun t => fitP (k, i, a, c, t)) n (l.take n) := if_neg hf
      rw [e]
      obtain ⟨w, h1, h2⟩ := shrX h165 b j0 j1 j2 j3 j4 j5 j6 j7 j8 j9 j10 k i a c j11 j12 j13 j14 j15 n (l.take n) hlt (by omega) (fun x h => hx x (List.mem_of_mem_take h))
      exact ⟨w, loop_in (hstep false (by simpa using hf)) h1, h2⟩
noncomputable def setV (b : Bridge) (l : List Bind) : Bridge × Int × Int := (impl_SetAll b l).getD (b, 0, 0)
noncomputable def ansV (b : Bridge) (p : Pdu) : Bridge × Pdu :=
  cond (p.1 == 160) (b, 162, p.2.1, 0, 0, p.2.2.2.2.map fun x => (x.1, getV b x.1))
    (cond (p.1 == 161) (b, 162, p.2.1, 0, 0, p.2.2.2.2.map fun x => nextV b x.1)
      (cond (p.1 == 165) (b, 162, p.2.1, 0, 0, bulkV b p) ((setV b p.2.2.2.2).1, 162, p.2.1, (setV b p.2.2.2.2).2.1, (setV b p.2.2.2.2).2.2, p.2.2.2.2)))
noncomputable def lessV (b : Bridge) (p : Pdu) : Bridge × Pdu :=
  match cond (p.1 == 165) (shr (fun t => fitP (162, p.2.1, 0, 0, t)) (bulkV b p).length (bulkV b p)) none with
  | some t => (b, 162, p.2.1, 0, 0, t)
  | none => (b, 162, p.2.1, 7, 0, [])
noncomputable def doneV (b : Bridge) (p : Pdu) : Bridge × Pdu := cond (fitP (ansV b p).2) (ansV b p) (lessV b p)
noncomputable def askP (b : Bridge) (p : Pdu) : Bool := pBridge b && (pPdu p && (p.1 != 162))
noncomputable def replyV (b : Bridge) (p : Pdu) : Bridge × Pdu × Bool := cond (askP b p) ((doneV b p).1, (doneV b p).2, true) (b, (0, 0, 0, 0, []), false)
theorem pdu_xs {p : Pdu} (hp : pPdu p = true) : XsLe M p.2.2.2.2 := by
  obtain ⟨h1, h2, _⟩ := pPdu_parts hp
  exact ⟨by show _ ≤ 1048576; omega, fun x hx => bind_small (h1 x hx)⟩
theorem replyT {b : Bridge} (h : BWf b) (hb : BLe M b) {p : Pdu} (hp : PLe M p) : impl_ReplyOf b p = some (replyV b p) := by
  unfold impl_ReplyOf replyV askP
  rw [copyBridge hb, Option.bind_some, bridgeT h, Option.bind_some]
  cases hbr : pBridge b with
  | false => rw [Bool.not_false, cond_true, Option.bind_some, cond_true, Option.bind_some, cond_true]; rfl
  | true =>
  rw [Bool.not_true, cond_false, pduT hp, Option.bind_some, Option.bind_some]
  cases hpp : pPdu p with
  | false => rw [Bool.not_false, cond_true, Option.bind_some, cond_true]; rfl
  | true =>
  rw [Bool.not_true, cond_false, Option.bind_some]
  cases h162 : (p.1 == 162) with
  | true =>
    have : (p.1 != 162) = false := by rw [bne, h162]; rfl
    rw [cond_true, this]; rfl
  | false =>
  have hne : (p.1 != 162) = true := by rw [bne, h162]; rfl
  have hBO := bok h hbr
  obtain ⟨x1, x2, x3, x4, x5, x6⟩ := pPdu_parts hpp
  have hxs := pdu_xs hpp
  rw [cond_false, hne, Bool.true_and, Bool.true_and, cond_true]
  unfold doneV ansV lessV
  cases h160 : (p.1 == 160) with
  | true =>
    have h165 : (p.1 == 165) = false := by simp only [beq_iff_eq] at h160; rw [h160]; rfl
    have e : loop (fun z : Int × Int × Int × Int × Int × List Bind => impl_ReplyOf_l1 b p z.1 z.2.1 z.2.2.1 z.2.2.2.1 z.2.2.2.2.1 z.2.2.2.2.2) (0, 162, p.2.1, 0, 0, []) = some (162, p.2.1, 0, 0, p.2.2.2.2.map fun x => (x.1, getV b x.1)) := by
      obtain ⟨v, e1, rfl⟩ := loop_inv (step := fun z : Int × Int × Int × Int × Int × List Bind => impl_ReplyOf_l1 b p z.1 z.2.1 z.2.2.1 z.2.2.2.1 z.2.2.2.2.1 z.2.2.2.2.2) (fun k z => z = ((k : Int), 162, p.2.1, 0, 0, (p.2.2.2.2.take k).map fun x => (x.1, getV b x.1))) p.2.2.2.2.length (fun v => v = (162, p.2.1, 0, 0, p.2.2.2.2.map fun x => (x.1, getV b x.1)))
        (fun k z hk e => by
          subst e
          refine .inl ⟨_, ?_, rfl⟩
          have hx := pOid_len (xOk_oid (x1 _ (List.getElem_mem hk)))
          dsimp only
          unfold impl_ReplyOf_l1
          rw [dlt (by omega), cond_true, at_nat hk, Option.bind_some, copyInts (by show _ ≤ 1048576; omega), Option.bind_some, (getE hBO (by omega)).1, Option.bind_some, app_small (by rw [List.length_map, List.length_take]; show min k _ + 1 ≤ _; omega), Option.bind_some, w64_nat (by omega),
            List.take_add_one, List.getElem?_eq_getElem hk, List.map_append]; rfl)
        (fun z e => by
          subst e
          refine ⟨_, ?_, rfl⟩
          dsimp only
          unfold impl_ReplyOf_l1
          rw [dnlt (by omega), cond_false, List.take_length]) (x := (0, 162, p.2.1, 0, 0, [])) rfl
      exact e1
    simp only [cond_true, cond_false]
    rw [e, Option.bind_some, fitsT ⟨by show (p.2.2.2.2.map _).length ≤ 1048576; rw [List.length_map]; omega, fun x hx => by
      obtain ⟨y, hy, rfl⟩ := List.mem_map.1 hx
      exact bind_small (by unfold xOk; rw [xOk_oid (x1 y hy), getOk hBO (by have := pOid_len (xOk_oid (x1 y hy)); omega)]; rfl)⟩, Option.bind_some]
    cases fitP (162, p.2.1, 0, 0, p.2.2.2.2.map fun x => (x.1, getV b x.1)) with
    | true => rfl
    | false =>
      simp only [cond_false]
      refine bind_end ?_ fun d => ?_
      · dsimp only
        unfold impl_ReplyOf_l5
        rw [h165, cond_false, Option.bind_some, cond_false]
        exact ⟨_, rfl⟩
      · rw [Option.bind_some]; simp only [h165, cond_false]
  | false =>
  cases h161 : (p.1 == 161) with
  | true =>
    have h165 : (p.1 == 165) = false := by simp only [beq_iff_eq] at h161; rw [h161]; rfl
    have e : loop (fun z : Int × Int × Int × Int × Int × List Bind => impl_ReplyOf_l3 b p z.1 z.2.1 z.2.2.1 z.2.2.2.1 z.2.2.2.2.1 z.2.2.2.2.2) (0, 162, p.2.1, 0, 0, []) = some (162, p.2.1, 0, 0, p.2.2.2.2.map fun x => nextV b x.1) := by
      obtain ⟨v, e1, rfl⟩ := loop_inv (step := fun z : Int × Int × Int × Int × Int × List Bind => impl_ReplyOf_l3 b p z.1 z.2.1 z.2.2.1 z.2.2.2.1 z.2.2.2.2.1 z.2.2.2.2.2) (fun k z => z = ((k : Int), 162, p.2.1, 0, 0, (p.2.2.2.2.take k).map fun x => nextV b x.1)) p.2.2.2.2.length (fun v => v = (162, p.2.1, 0, 0, p.2.2.2.2.map fun x => nextV b x.1))
        (fun k z hk e => by
          subst e
          refine .inl ⟨_, ?_, rfl⟩
          have hx := pOid_len (xOk_oid (x1 _ (List.getElem_mem hk)))
          dsimp only
          unfold impl_ReplyOf_l3
          rw [dlt (by omega), cond_true, at_nat hk, Option.bind_some, (nextE hBO (by omega)).1, Option.bind_some, app_small (by rw [List.length_map, List.length_take]; show min k _ + 1 ≤ _; omega), Option.bind_some, w64_nat (by omega),
            List.take_add_one, List.getElem?_eq_getElem hk, List.map_append]; rfl)
        (fun z e => by
          subst e
          refine ⟨_, ?_, rfl⟩
          dsimp only
          unfold impl_ReplyOf_l3
          rw [dnlt (by omega), cond_false, List.take_length]) (x := (0, 162, p.2.1, 0, 0, [])) rfl
      exact e1
    simp only [cond_true, cond_false]
    rw [e, Option.bind_some, fitsT ⟨by show (p.2.2.2.2.map _).length ≤ 1048576; rw [List.length_map]; omega, fun x hx => by
      obtain ⟨y, hy, rfl⟩ := List.mem_map.1 hx
      exact bind_small (nextOk hBO (xOk_oid (x1 y hy)))⟩, Option.bind_some]
    cases fitP (162, p.2.1, 0, 0, p.2.2.2.2.map fun x => nextV b x.1) with
    | true => rfl
    | false =>
      simp only [cond_false]
      refine bind_end ?_ fun d => ?_
      · dsimp only
        unfold impl_ReplyOf_l5_1
        rw [h165, cond_false, Option.bind_some, cond_false]
        exact ⟨_, rfl⟩
      · rw [Option.bind_some]; simp only [h165, cond_false]
  | false =>
  cases h165 : (p.1 == 165) with
  | true =>
    have hbk := bulk_ok hBO hpp
    have hbx : ∀ x ∈ bulkV b p, XLe M x := fun x hx => bind_small (hbk.oOk x hx)
    have hbn : (bulkV b p).length ≤ 10 := hbk.o10
    simp only [cond_true, cond_false]
    rw [bulkX hBO hpp, Option.bind_some, fitsT ⟨by show (bulkV b p).length ≤ 1048576; omega, hbx⟩, Option.bind_some]
    cases fitP (162, p.2.1, 0, 0, bulkV b p) with
    | true => rfl
    | false =>
      simp only [cond_false]
      obtain ⟨w, e1, e2⟩ := shrX h165 b 0 [] 0 0 0 0 0 0 0 0 0 162 p.2.1 0 0 [] [] [] [] [] _ (bulkV b p) rfl hbn hbx
      rw [e1, Option.bind_some]
      cases hs : shr (fun t => fitP (162, p.2.1, 0, 0, t)) (bulkV b p).length (bulkV b p) with
      | some t => rw [hs] at e2; rw [e2]; rfl
      | none =>
        rw [hs] at e2
        obtain ⟨d, rfl⟩ := e2
        rw [Sum.elim_inl, Option.bind_some]; try rfl
  | false =>
    obtain ⟨r, r1, _, _, _⟩ := setAllX h hb hxs
    have hr : setV b p.2.2.2.2 = r := by unfold setV; rw [r1]; rfl
    simp only [cond_false]
    rw [r1, Option.bind_some, copyBinds hxs, Option.bind_some, hr, fitsT (p := (162, p.2.1, r.2.1, r.2.2, p.2.2.2.2)) ⟨hxs.1, hxs.2⟩, Option.bind_some]
    cases fitP (162, p.2.1, r.2.1, r.2.2, p.2.2.2.2) with
    | true => rfl
    | false =>
      simp only [cond_false]
      refine bind_end ?_ fun d => ?_
      · dsimp only
        unfold impl_ReplyOf_l5_3
        rw [h165, cond_false, Option.bind_some, cond_false]
        exact ⟨_, rfl⟩
      · rw [Option.bind_some]

theorem done_kind {b : Bridge} (h : BOk b) {p : Pdu} (hp : pPdu p = true) (hk : (p.1 != 162) = true) : askP b p = true ∧ (replyV b p).2.1 = (doneV b p).2 ∧ (replyV b p).1 = (doneV b p).1 ∧ (doneV b p).2.1 = 162 ∧ (doneV b p).2.2.1 = p.2.1 := by
  have e : askP b p = true := by unfold askP; rw [h.ok, hp, hk]; rfl
  have e1 : (ansV b p).2.1 = 162 ∧ (ansV b p).2.2.1 = p.2.1 := by
    unfold ansV
    cases (p.1 == 160) <;> cases (p.1 == 161) <;> cases (p.1 == 165) <;> exact ⟨rfl, rfl⟩
  have e2 : (lessV b p).2.1 = 162 ∧ (lessV b p).2.2.1 = p.2.1 := by
    unfold lessV
    split <;> exact ⟨rfl, rfl⟩
  refine ⟨e, ?_, ?_, ?_⟩
  · unfold replyV; rw [e, cond_true]
  · unfold replyV; rw [e, cond_true]
  · unfold doneV
    cases fitP (ansV b p).2 with
    | true => exact e1
    | false => exact e2
def hdB (w : List UInt8) : List Int := tlvL 2 (intB 1) ++ tlvL 4 (intsOf w)
theorem bytesW {p : List Int} (h : Cs.wf (.one (.sl (.one (.int .u8)))) p) : ∀ x ∈ p, 0 ≤ x ∧ x ≤ 255 := by
  simp only [Cs.wf, CT.wf] at h
  intro x hx
  have := h.2 x hx
  have h2 : 0 ≤ x ∧ x ≤ 255 := this
  exact h2
theorem atE {p : List Int} (hw : ∀ x ∈ p, 0 ≤ x ∧ x ≤ 255) (hl : p.length ≤ 1048576) {i : Int} (h0 : 0 ≤ i) (h1 : i ≤ 100) : ∃ a : Nat, laws_at p i = some (a : Int) := by
  unfold laws_at
  by_cases h : i < (p.length : Int)
  · obtain ⟨k, rfl⟩ : ∃ k : Nat, i = (k : Int) := ⟨i.toNat, by omega⟩
    have hk : k < p.length := by omega
    obtain ⟨q1, q2⟩ := hw _ (List.getElem_mem hk)
    rw [decide_eq_true h, cond_true, at_nat hk, Option.bind_some, w64_id (by omega) (by omega)]
    exact ⟨p[k].toNat, by rw [Int.toNat_of_nonneg q1]⟩
  · rw [decide_eq_false h, cond_false]
    have e : (w64 ((w64 (i * 31)) + (w64 ((p.length : Int) * 7)))).tmod 256 = (i * 31 + (p.length : Int) * 7) % 256 := by
      rw [w64_id (n := i * 31) (by omega) (by omega), w64_id (n := (p.length : Int) * 7) (by omega) (by omega), w64_id (by omega) (by omega), Int.tmod_eq_emod_of_nonneg (by omega)]
    exact ⟨((i * 31 + (p.length : Int) * 7) % 256).toNat, by show some _ = _; rw [e, Int.toNat_of_nonneg (by omega)]⟩
theorem pPdu_of {p : Pdu} (hx : ∀ x ∈ p.2.2.2.2, xOk x = true) (hn : p.2.2.2.2.length ≤ 10) (hi : pIn p.2.1 (-2147483648) 2147483647 = true)
    (hk : (cond (p.1 == 162 || p.1 == 165) (pIn p.2.2.1 0 1000 && pIn p.2.2.2.1 0 1000) (cond (p.1 == 160 || (p.1 == 161 || p.1 == 163)) (p.2.2.1 == 0 && p.2.2.2.1 == 0) false)) = true) : pPdu p = true := by
  unfold pPdu
  have h1 : (List.range p.2.2.2.2.length).any (bX p.2.2.2.2) = false := by
    rw [List.any_eq_false]
    intro k hk'
    have hk' := List.mem_range.1 hk'
    unfold bX
    simp only [List.getElem?_eq_getElem hk', hx _ (List.getElem_mem hk')]
    simp
  rw [h1, decide_eq_true (by omega), hk, hi]; rfl

structure AskD (p : Pdu) : Prop where
  k : p.1 = 160 ∨ p.1 = 161 ∨ p.1 = 163 ∨ p.1 = 165
  i : 0 ≤ p.2.1 ∧ p.2.1 < 100
  ab : (p.1 = 165 ∧ (0 ≤ p.2.2.1 ∧ p.2.2.1 ≤ 1000) ∧ (0 ≤ p.2.2.2.1 ∧ p.2.2.2.1 ≤ 1000)) ∨ (p.1 ≠ 165 ∧ p.2.2.1 = 0 ∧ p.2.2.2.1 = 0)
  n : p.2.2.2.2.length ≤ 3
  s : ∀ x ∈ p.2.2.2.2, XSm x
  o : p.1 ≠ 163 → ∀ x ∈ p.2.2.2.2, xOk x = true
theorem AskD.le {p : Pdu} (h : AskD p) : PLe M p := ⟨by have := h.n; show _ ≤ 1048576; omega, fun x hx => (h.s x hx).le⟩
theorem AskD.ok {p : Pdu} (h : AskD p) (hk : p.1 ≠ 163) : pPdu p = true := by
  have hi := h.i
  refine pPdu_of (h.o hk) (by have := h.n; omega) (inP (by omega) (by omega)) ?_
  rcases h.ab with ⟨e, ⟨a1, a2⟩, b1, b2⟩ | ⟨e, a1, b1⟩
  · rw [e, inP a1 a2, inP b1 b2]; rfl
  · rw [a1, b1]
    rcases h.k with k | k | k | k
    · rw [k]; rfl
    · rw [k]; rfl
    · exact absurd k hk
    · exact absurd k e
end Go.V.W

