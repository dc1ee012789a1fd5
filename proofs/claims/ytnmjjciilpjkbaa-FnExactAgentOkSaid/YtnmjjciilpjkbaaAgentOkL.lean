/- The law FnExactAgentOk: part of the proof that for every input it returns true. No condition. -/
import Derived.Test.YtnmjjciilpjkbaaAgentOkB
namespace Go.V.W
set_option linter.unusedVariables false
set_option linter.unusedSimpArgs false
/-! ### names, values, requests -/
def bOid (o : List Int) (k : Nat) : Bool := match o[k]? with | some x => !(pIn x 0 100000) | none => false
def pOid (o : List Int) : Bool := !((List.range o.length).any (bOid o)) && pIn (o.length : Int) 1 10
theorem oidT {o : List Int} (h : o.length < 9223372036854775807) : impl_OidOk o = some (pOid o) := by
  unfold impl_OidOk pOid
  have e : loop (fun z => impl_OidOk_l0 o z) 0 = some (cond ((List.range o.length).any (bOid o)) (Sum.inr false) (Sum.inl ())) := by
    rw [← all_loop (n := o.length) (c := fun i => (at? o i).bind fun x => (impl_in x 0 100000).bind fun t => some (!t)) (b := bOid o) h (fun k hk => by
      simp only [at_nat hk, Option.bind_some, bOid, List.getElem?_eq_getElem hk, inT])]
    refine loop_ext (fun i => ?_) 0
    unfold impl_OidOk_l0
    simp only [Option.bind_assoc, Option.bind_some]
  rw [e, Option.bind_some]
  cases (List.range o.length).any (bOid o) with
  | true => rfl
  | false => simp only [cond_false, Sum.elim_inl, inT, Option.bind_some, Bool.not_false, Bool.true_and]
theorem oidS : spec_OidOk = impl_OidOk := rfl
theorem clipT (n : Int) : ∃ c, spec_l1Clip n = some c ∧ (c == n) = pIn n (-2147483648) 2147483647 := by
  unfold spec_l1Clip pIn
  by_cases h1 : n > 2147483647
  · refine ⟨_, by rw [decide_eq_true h1]; rfl, ?_⟩
    rw [decide_eq_false (show ¬ n ≤ 2147483647 by omega), Bool.and_false]
    exact beq_eq_false_iff_ne.2 (by omega)
  · by_cases h2 : n < -2147483648
    · refine ⟨_, by rw [decide_eq_false h1, decide_eq_true h2]; rfl, ?_⟩
      rw [decide_eq_false (show ¬ n ≥ -2147483648 by omega), Bool.false_and]
      exact beq_eq_false_iff_ne.2 (by omega)
    · refine ⟨_, by rw [decide_eq_false h1, decide_eq_false h2]; rfl, ?_⟩
      rw [decide_eq_true (show n ≥ -2147483648 by omega), decide_eq_true (show n ≤ 2147483647 by omega), beq_self_eq_true]; rfl
theorem sameNil (l : List Int) : impl_SameOid l [] = some ((l.length : Int) == 0) := by
  cases l with
  | nil => exact eqS_of (n := 0) (eq_loop' (a := []) (by decide))
  | cons x l =>
    unfold impl_SameOid
    have e : (((x :: l).length : Int) != (([] : List Int).length : Int)) = true := by simp; omega
    rw [e, cond_true, beq_eq_false_iff_ne.2 (by simp; omega)]
theorem sameSelf {l : List Int} (h : l.length ≤ M) : impl_SameOid l l = some true := eqS_of (eq_loop' (le32 h))
theorem eqNil (s : List UInt8) : (s == []) = ((s.length : Int) == 0) := by cases s with
  | nil => rfl
  | cons a s => rw [beq_eq_false_iff_ne.2 (by simp), beq_eq_false_iff_ne.2 (by simp; omega)]
def pVal (v : Val) : Bool :=
  cond (v.1 == 5 || (v.1 == 128 || v.1 == 130)) (v.2.1 == 0 && (v.2.2.1 == [] && ((v.2.2.2.length : Int) == 0)))
    (cond (v.1 == 2) (pIn v.2.1 (-2147483648) 2147483647 && (v.2.2.1 == [] && ((v.2.2.2.length : Int) == 0)))
      (cond (v.1 == 4) (decide ((v.2.2.1.length : Int) ≤ 20) && (v.2.1 == 0 && ((v.2.2.2.length : Int) == 0)))
        (cond (v.1 == 6) (pOid v.2.2.2 && (v.2.1 == 0 && (v.2.2.1 == []))) false)))
theorem valT {v : Val} (h : v.2.2.2.length ≤ M) : impl_ValOk v = some (pVal v) := by
  obtain ⟨k, n, s, o⟩ := v
  have h' : o.length ≤ 1048576 := h
  have ho : o.length ≤ M := h
  have hb : o.length < 9223372036854775807 := by omega
  unfold impl_ValOk pVal impl_SameVal impl_isInt
  simp only [inT, sameNil, sameSelf ho, oidT hb, Option.bind_some]
  by_cases h2 : k = 2
  · subst h2; cases pIn n (-2147483648) 2147483647 <;> cases s == [] <;> cases (o.length : Int) == 0 <;> simp
  by_cases h4 : k = 4
  · subst h4; cases decide ((s.length : Int) ≤ 20) <;> cases n == 0 <;> cases (o.length : Int) == 0 <;> simp
  by_cases h6 : k = 6
  · subst h6; cases pOid o <;> cases n == 0 <;> cases s == [] <;> simp
  rw [beq_eq_false_iff_ne.2 h2, beq_eq_false_iff_ne.2 h4, beq_eq_false_iff_ne.2 h6]
  by_cases h5 : k = 5
  · subst h5; cases n == 0 <;> cases s == [] <;> cases (o.length : Int) == 0 <;> simp
  by_cases h128 : k = 128
  · subst h128; cases n == 0 <;> cases s == [] <;> cases (o.length : Int) == 0 <;> simp
  by_cases h130 : k = 130
  · subst h130; cases n == 0 <;> cases s == [] <;> cases (o.length : Int) == 0 <;> simp
  rw [beq_eq_false_iff_ne.2 h5, beq_eq_false_iff_ne.2 h128, beq_eq_false_iff_ne.2 h130]
  rfl
theorem valS {v : Val} (h : v.2.2.2.length ≤ M) : spec_ValOk v = some (pVal v) := by
  obtain ⟨k, n, s, o⟩ := v
  have h' : o.length ≤ 1048576 := h
  have hb : o.length < 9223372036854775807 := by omega
  obtain ⟨c, hc, hc2⟩ := clipT n
  unfold spec_ValOk pVal
  simp only [oidS, oidT hb, hc, hc2, Option.bind_some]
  by_cases h5 : k = 5
  · subst h5; cases n == 0 <;> cases s == [] <;> cases (o.length : Int) == 0 <;> simp
  by_cases h128 : k = 128
  · subst h128; cases n == 0 <;> cases s == [] <;> cases (o.length : Int) == 0 <;> simp
  by_cases h130 : k = 130
  · subst h130; cases n == 0 <;> cases s == [] <;> cases (o.length : Int) == 0 <;> simp
  rw [beq_eq_false_iff_ne.2 h5, beq_eq_false_iff_ne.2 h128, beq_eq_false_iff_ne.2 h130]
  by_cases h2 : k = 2
  · subst h2; cases pIn n (-2147483648) 2147483647 <;> cases s == [] <;> cases (o.length : Int) == 0 <;> simp
  by_cases h4 : k = 4
  · subst h4; cases decide ((s.length : Int) ≤ 20) <;> cases n == 0 <;> cases (o.length : Int) == 0 <;> simp
  by_cases h6 : k = 6
  · subst h6; cases pOid o <;> cases n == 0 <;> cases s == [] <;> simp
  rw [beq_eq_false_iff_ne.2 h2, beq_eq_false_iff_ne.2 h4, beq_eq_false_iff_ne.2 h6]
  rfl
def xOk (x : Bind) : Bool := pOid x.1 && pVal x.2
def bX (l : List Bind) (k : Nat) : Bool := match l[k]? with | some x => !(xOk x) | none => false
def pPdu (p : Pdu) : Bool :=
  (!((List.range p.2.2.2.2.length).any (bX p.2.2.2.2)) && decide ((p.2.2.2.2.length : Int) ≤ 10)) &&
  (cond (p.1 == 162 || p.1 == 165) (pIn p.2.2.1 0 1000 && pIn p.2.2.2.1 0 1000)
    (cond (p.1 == 160 || (p.1 == 161 || p.1 == 163)) (p.2.2.1 == 0 && p.2.2.2.1 == 0) false) && pIn p.2.1 (-2147483648) 2147483647)
theorem any_or {n : Nat} {f g : Nat → Bool} : (List.range n).any (fun k => f k || g k) = ((List.range n).any f || (List.range n).any g) := by
  generalize List.range n = l
  induction l with
  | nil => rfl
  | cons a l ih => simp only [List.any_cons, ih]; cases f a <;> cases g a <;> simp
theorem any_ten (n : Nat) : (List.range n).any (fun k => decide ((k : Int) ≥ 10)) = !(decide ((n : Int) ≤ 10)) := by
  by_cases h : (n : Int) ≤ 10
  · rw [decide_eq_true h]
    refine Bool.eq_false_iff.2 fun ha => ?_
    obtain ⟨k, h1, h2⟩ := List.any_eq_true.1 ha
    have := List.mem_range.1 h1
    have := of_decide_eq_true h2
    omega
  · rw [decide_eq_false h]
    exact List.any_eq_true.2 ⟨10, List.mem_range.2 (by omega), by decide⟩
theorem pdu_loop {p : Pdu} (h : PLe M p) : loop (fun z => impl_PduOk_l1 p z) 0 = some (cond (!(decide ((p.2.2.2.2.length : Int) ≤ 10)) || (List.range p.2.2.2.2.length).any (bX p.2.2.2.2)) (Sum.inr false) (Sum.inl ())) := by
  obtain ⟨k, i, e, x, l⟩ := p
  have h' : XsLe M l := h
  have hl : l.length ≤ 1048576 := h'.1
  show loop (fun z => impl_PduOk_l1 (k, i, e, x, l) z) 0 = some (cond (!(decide ((l.length : Int) ≤ 10)) || (List.range l.length).any (bX l)) (Sum.inr false) (Sum.inl ()))
  rw [← any_ten, ← any_or, ← all_loop (n := l.length) (c := fun i => (at? l i).bind fun x => (cond (decide (i ≥ 10)) (some true) ((impl_OidOk x.1).bind fun t => some (!t))).bind fun t => (cond t (some true) ((impl_ValOk x.2).bind fun t => some (!t)))) (b := fun k => decide ((k : Int) ≥ 10) || bX l k) (by omega) (fun k hk => by
    have hx : XLe M l[k] := h'.2 _ (List.getElem_mem hk)
    have h1 : l[k].1.length ≤ 1048576 := hx.1
    have h2 : l[k].2.2.2.2.length ≤ M := hx.2.2
    simp only [at_nat hk, Option.bind_some, bX, List.getElem?_eq_getElem hk, oidT (show l[k].1.length < 9223372036854775807 by omega), valT (v := l[k].2) h2, xOk]
    cases decide ((k : Int) ≥ 10) <;> cases pOid l[k].1 <;> cases pVal l[k].2 <;> rfl)]
  refine loop_ext (fun i => ?_) 0
  unfold impl_PduOk_l1
  simp only [Option.bind_assoc, Option.bind_some]
theorem pdu_loopS {p : Pdu} (h : PLe M p) : loop (fun z => spec_PduOk_l0 p z) 0 = some (cond ((List.range p.2.2.2.2.length).any (bX p.2.2.2.2)) (Sum.inr false) (Sum.inl ())) := by
  obtain ⟨k, i, e, x, l⟩ := p
  have h' : XsLe M l := h
  have hl : l.length ≤ 1048576 := h'.1
  show loop (fun z => spec_PduOk_l0 (k, i, e, x, l) z) 0 = some (cond ((List.range l.length).any (bX l)) (Sum.inr false) (Sum.inl ()))
  rw [← all_loop (n := l.length) (c := fun i => (at? l i).bind fun x => (spec_OidOk x.1).bind fun t => (cond (!t) (some true) ((at? l i).bind fun x => (spec_ValOk x.2).bind fun t => some (!t)))) (b := bX l) (by omega) (fun k hk => by
    have hx : XLe M l[k] := h'.2 _ (List.getElem_mem hk)
    have h1 : l[k].1.length ≤ 1048576 := hx.1
    have h2 : l[k].2.2.2.2.length ≤ M := hx.2.2
    simp only [at_nat hk, Option.bind_some, bX, List.getElem?_eq_getElem hk, oidS, oidT (show l[k].1.length < 9223372036854775807 by omega), valS (v := l[k].2) h2, xOk]
    cases pOid l[k].1 <;> cases pVal l[k].2 <;> rfl)]
  refine loop_ext (fun i => ?_) 0
  unfold spec_PduOk_l0
  simp only [Option.bind_assoc, Option.bind_some]
theorem pduT {p : Pdu} (h : PLe M p) : impl_PduOk p = some (pPdu p) := by
  have e0 := pdu_loop h
  have e1 : loop (fun z => impl_PduOk_l1_1 p z) 0 = _ := e0
  have e2 : loop (fun z => impl_PduOk_l1_2 p z) 0 = _ := e0
  have e3 : loop (fun z => impl_PduOk_l1_3 p z) 0 = _ := e0
  have e4 : loop (fun z => impl_PduOk_l1_4 p z) 0 = _ := e0
  have e5 : loop (fun z => impl_PduOk_l1_5 p z) 0 = _ := e0
  have e6 : loop (fun z => impl_PduOk_l1_6 p z) 0 = _ := e0
  have e7 : loop (fun z => impl_PduOk_l1_7 p z) 0 = _ := e0
  have e8 : loop (fun z => impl_PduOk_l1_8 p z) 0 = _ := e0
  unfold impl_PduOk pPdu impl_isInt
  rw [e0, e1, e2, e3, e4, e5, e6, e7, e8]
  simp only [inT, Option.bind_some]
  generalize (List.range p.2.2.2.2.length).any (bX p.2.2.2.2) = u
  generalize decide ((p.2.2.2.2.length : Int) ≤ 10) = w
  generalize pIn p.2.1 (-2147483648) 2147483647 = x
  generalize p.2.2.1 = e
  generalize p.2.2.2.1 = i
  generalize p.1 = k
  by_cases h0 : k = 160
  · subst h0
    have b1 : (e != 0) = !(e == 0) := rfl
    have b2 : (i != 0) = !(i == 0) := rfl
    rw [b1, b2]
    cases e == 0 <;> cases i == 0 <;> cases u <;> cases w <;> cases x <;> rfl
  by_cases h1 : k = 161
  · subst h1
    have b1 : (e != 0) = !(e == 0) := rfl
    have b2 : (i != 0) = !(i == 0) := rfl
    rw [b1, b2]
    cases e == 0 <;> cases i == 0 <;> cases u <;> cases w <;> cases x <;> rfl
  by_cases h3 : k = 163
  · subst h3
    have b1 : (e != 0) = !(e == 0) := rfl
    have b2 : (i != 0) = !(i == 0) := rfl
    rw [b1, b2]
    cases e == 0 <;> cases i == 0 <;> cases u <;> cases w <;> cases x <;> rfl
  by_cases h2 : k = 162
  · subst h2; cases pIn e 0 1000 <;> cases pIn i 0 1000 <;> cases u <;> cases w <;> cases x <;> rfl
  by_cases h5 : k = 165
  · subst h5; cases pIn e 0 1000 <;> cases pIn i 0 1000 <;> cases u <;> cases w <;> cases x <;> rfl
  rw [beq_eq_false_iff_ne.2 h0, beq_eq_false_iff_ne.2 h1, beq_eq_false_iff_ne.2 h2, beq_eq_false_iff_ne.2 h3, beq_eq_false_iff_ne.2 h5]
  cases u <;> cases w <;> rfl
theorem pduS {p : Pdu} (h : PLe M p) : spec_PduOk p = some (pPdu p) := by
  obtain ⟨c, hc, hc2⟩ := clipT p.2.1
  unfold spec_PduOk pPdu spec_l4Kind
  rw [pdu_loopS h]
  simp only [inS, hc, hc2, Option.bind_some]
  generalize (List.range p.2.2.2.2.length).any (bX p.2.2.2.2) = u
  generalize decide ((p.2.2.2.2.length : Int) ≤ 10) = w
  generalize pIn p.2.1 (-2147483648) 2147483647 = x
  generalize p.2.2.1 = e
  generalize p.2.2.2.1 = i
  generalize p.1 = k
  have b1 : (e != 0) = !(e == 0) := rfl
  have b2 : (i != 0) = !(i == 0) := rfl
  rw [b1, b2]
  have z1 : (e == 0) = true → pIn e 0 1000 = true := fun h => by rw [eq_of_beq h]; rfl
  have z2 : (i == 0) = true → pIn i 0 1000 = true := fun h => by rw [eq_of_beq h]; rfl
  by_cases h2 : k = 162
  · subst h2; cases pIn e 0 1000 <;> cases pIn i 0 1000 <;> cases u <;> cases w <;> cases x <;> rfl
  by_cases h5 : k = 165
  · subst h5; cases pIn e 0 1000 <;> cases pIn i 0 1000 <;> cases u <;> cases w <;> cases x <;> rfl
  have n2 : (k != 162) = true := bne_iff_ne.2 h2
  have n5 : (k != 165) = true := bne_iff_ne.2 h5
  rw [n2, n5, beq_eq_false_iff_ne.2 h2, beq_eq_false_iff_ne.2 h5]
  cases he : e == 0 with
  | false => cases hi : i == 0 <;> cases u <;> cases w <;> cases x <;> cases k == 160 <;> cases k == 161 <;> cases k == 163 <;> rfl
  | true =>
    rw [z1 he]
    cases hi : i == 0 with
    | false => cases u <;> cases w <;> cases x <;> cases k == 160 <;> cases k == 161 <;> cases k == 163 <;> rfl
    | true =>
      rw [z2 hi]
      cases u <;> cases w <;> cases x <;> cases k == 160 <;> cases k == 161 <;> cases k == 163 <;> rfl
/-! ### jobs, agents -/
def jTries (j : Job) : Int := j.2.2.2.2.2.2.2.2.2.2.2.2.2.2.2.2.2.2.2.2
def jAt (j : Job) : Int := j.2.2.2.2.2.2.2.2.2.2.2.2.2.2.2.2.2.2.2.1
noncomputable def pJob (j : Job) : Bool := pIn j.2.2.1 0 2 && (pIn (jAt j) 0 (j.2.2.2.2.2.2.2.1.length : Int) && (pIn (jTries j) 0 3 && (j.2.2.1 == 0 || (pPdu (jP j) && ((j.2.2.2.1 != 162) && pBridge (jB j))))))
structure JWf (j : Job) : Prop where
  p : PLe M (jP j)
  b : BWf (jB j)
theorem jobT {j : Job} (h : JWf j) : impl_jobOk j = some (pJob j) := by
  have hp : impl_PduOk (j.2.2.2.1, j.2.2.2.2.1, j.2.2.2.2.2.1, j.2.2.2.2.2.2.1, j.2.2.2.2.2.2.2.1) = some (pPdu (jP j)) := pduT h.p
  have hb := bridgeT h.b
  unfold jB at hb
  unfold impl_jobOk pJob
  rw [hp, hb]
  simp only [inT, Option.bind_some, jAt, jTries]
  cases pIn j.2.2.1 0 2 <;> cases pIn j.2.2.2.2.2.2.2.2.2.2.2.2.2.2.2.2.2.2.2.1 0 (j.2.2.2.2.2.2.2.1.length : Int) <;> cases pIn j.2.2.2.2.2.2.2.2.2.2.2.2.2.2.2.2.2.2.2.2 0 3 <;> cases j.2.2.1 == 0 <;> cases pPdu (jP j) <;> cases j.2.2.2.1 != 162 <;> rfl
theorem jobS {j : Job} (h : JWf j) (last : Int) : spec_l20Job j last = some (pIn j.1 1 last && pJob j) := by
  have hp : spec_PduOk (j.2.2.2.1, j.2.2.2.2.1, j.2.2.2.2.2.1, j.2.2.2.2.2.2.1, j.2.2.2.2.2.2.2.1) = some (pPdu (jP j)) := pduS h.p
  have hb := bridgeS h.b
  unfold jB at hb
  unfold spec_l20Job spec_l20Asks pJob
  rw [hp, hb]
  simp only [inS, Option.bind_some, jAt, jTries]
  cases pIn j.1 1 last <;> cases pIn j.2.2.1 0 2 <;> cases pIn j.2.2.2.2.2.2.2.2.2.2.2.2.2.2.2.2.2.2.2.1 0 (j.2.2.2.2.2.2.2.1.length : Int) <;> cases pIn j.2.2.2.2.2.2.2.2.2.2.2.2.2.2.2.2.2.2.2.2 0 3 <;> cases j.2.2.1 == 0 <;> cases pPdu (jP j) <;> cases j.2.2.2.1 != 162 <;> rfl
def aJobs (a : Agent) : List Job := a.2.2.2.2.2.2.2.2.2.2.2.2.1
def aLast (a : Agent) : Int := a.2.2.2.2.2.2.2.2.2.2.2.2.2.2
def aLost (a : Agent) : Int := a.2.2.2.2.2.2.2.2.2.2.2.2.2.1
noncomputable def bJob (l : List Job) (last : Int) (k : Nat) : Bool := match l[k]? with
  | some j => !(pIn j.1 1 last && pJob j) || (decide (0 < k) && (match l[k - 1]? with | some p => decide (p.1 ≥ j.1) | none => false))
  | none => false
noncomputable def pAgent (a : Agent) : Bool := !((List.range (aJobs a).length).any (bJob (aJobs a) (aLast a))) && (pBridge (aB a) && (decide ((a.2.2.2.2.2.2.2.2.2.2.2.1.length : Int) ≤ 20) && (decide (((aJobs a).length : Int) ≤ 6) && (pIn (aLost a) 0 1000000 && pIn (aLast a) 0 1000000))))
structure AWf (a : Agent) : Prop where
  b : BWf (aB a)
  n : (aJobs a).length ≤ 1048576
  j : ∀ x ∈ aJobs a, JWf x
theorem agent_loop {a : Agent} (h : AWf a) : loop (fun z => impl_AgentOk_l0 a z) 0 = some (cond ((List.range (aJobs a).length).any (bJob (aJobs a) (aLast a))) (Sum.inr false) (Sum.inl ())) := by
  have hn := h.n
  rw [← all_loop (n := (aJobs a).length) (c := fun i => (at? (aJobs a) i).bind fun x => (impl_in x.1 1 (aLast a)).bind fun t => (cond (!t) (some true) ((cond (decide (i > 0)) ((at? (aJobs a) (w64 (i - 1))).bind fun y => some (decide (y.1 ≥ x.1))) (some false)).bind fun t => some t)).bind fun t => (cond t (some true) ((impl_jobOk x).bind fun t => some (!t))).bind fun t => some t) (b := bJob (aJobs a) (aLast a)) (by omega) (fun k hk => by
    simp only [at_nat hk, Option.bind_some, inT, jobT (h.j _ (List.getElem_mem hk)), bJob, List.getElem?_eq_getElem hk]
    by_cases h0 : 0 < k
    · have hd : decide ((k : Int) > 0) = true := decide_eq_true (by omega)
      simp only [hd, prev_at hk h0 (by omega), Option.bind_some, decide_eq_true h0, List.getElem?_eq_getElem (show k - 1 < (aJobs a).length by omega), cond_true]
      cases pIn (aJobs a)[k].1 1 (aLast a) <;> cases decide ((aJobs a)[k - 1].1 ≥ (aJobs a)[k].1) <;> cases pJob (aJobs a)[k] <;> rfl
    · have hd : decide ((k : Int) > 0) = false := decide_eq_false (by omega)
      simp only [hd, decide_eq_false h0]
      cases pIn (aJobs a)[k].1 1 (aLast a) <;> cases pJob (aJobs a)[k] <;> rfl)]
  refine loop_ext (fun i => ?_) 0
  unfold impl_AgentOk_l0 aJobs aLast
  simp only [Option.bind_assoc, Option.bind_some]
theorem agent_loopS {a : Agent} (h : AWf a) : loop (fun z => spec_AgentOk_l0 a z) 0 = some (cond ((List.range (aJobs a).length).any (bJob (aJobs a) (aLast a))) (Sum.inr false) (Sum.inl ())) := by
  have hn := h.n
  rw [← all_loop (n := (aJobs a).length) (c := fun i => (at? (aJobs a) i).bind fun x => (spec_l20Job x (aLast a)).bind fun t => (cond (!t) (some true) ((cond (decide (i > 0)) ((at? (aJobs a) (w64 (i - 1))).bind fun y => (at? (aJobs a) i).bind fun x => some (decide (y.1 ≥ x.1))) (some false)).bind fun t => some t))) (b := bJob (aJobs a) (aLast a)) (by omega) (fun k hk => by
    simp only [at_nat hk, Option.bind_some, jobS (h.j _ (List.getElem_mem hk)), bJob, List.getElem?_eq_getElem hk]
    by_cases h0 : 0 < k
    · have hd : decide ((k : Int) > 0) = true := decide_eq_true (by omega)
      simp only [hd, prev_at hk h0 (by omega), Option.bind_some, decide_eq_true h0, List.getElem?_eq_getElem (show k - 1 < (aJobs a).length by omega), cond_true]
      cases pIn (aJobs a)[k].1 1 (aLast a) <;> cases decide ((aJobs a)[k - 1].1 ≥ (aJobs a)[k].1) <;> cases pJob (aJobs a)[k] <;> rfl
    · have hd : decide ((k : Int) > 0) = false := decide_eq_false (by omega)
      simp only [hd, decide_eq_false h0]
      cases pIn (aJobs a)[k].1 1 (aLast a) <;> cases pJob (aJobs a)[k] <;> rfl)]
  refine loop_ext (fun i => ?_) 0
  unfold spec_AgentOk_l0 aJobs aLast
  simp only [Option.bind_assoc, Option.bind_some]
theorem gtNot (n m : Int) : decide (n > m) = !(decide (n ≤ m)) := by
  by_cases h : n ≤ m
  · rw [decide_eq_true h, decide_eq_false (by omega)]; rfl
  · rw [decide_eq_false h, decide_eq_true (by omega)]; rfl
theorem agentT {a : Agent} (h : AWf a) : impl_AgentOk a = some (pAgent a) := by
  have hb : impl_BridgeOk (a.1, a.2.1, a.2.2.1, a.2.2.2.1, a.2.2.2.2.1, a.2.2.2.2.2.1, a.2.2.2.2.2.2.1, a.2.2.2.2.2.2.2.1, a.2.2.2.2.2.2.2.2.1, a.2.2.2.2.2.2.2.2.2.1, a.2.2.2.2.2.2.2.2.2.2.1) = some (pBridge (aB a)) := bridgeT h.b
  unfold impl_AgentOk pAgent
  rw [agent_loop h, hb]
  simp only [countT, Option.bind_some, gtNot, aLost, aLast]
  generalize (List.range (aJobs a).length).any _ = u
  show _ = some (!u && (pBridge (aB a) && (_ && (decide ((a.2.2.2.2.2.2.2.2.2.2.2.2.1.length : Int) ≤ 6) && (_)))))
  cases u <;> cases pBridge (aB a) <;> cases decide ((a.2.2.2.2.2.2.2.2.2.2.2.1.length : Int) ≤ 20) <;> cases decide ((a.2.2.2.2.2.2.2.2.2.2.2.2.1.length : Int) ≤ 6) <;> cases pIn a.2.2.2.2.2.2.2.2.2.2.2.2.2.1 0 1000000 <;> cases pIn a.2.2.2.2.2.2.2.2.2.2.2.2.2.2 0 1000000 <;> rfl
theorem agentS {a : Agent} (h : AWf a) : spec_AgentOk a = some (pAgent a) := by
  have hb : spec_BridgeOk (a.1, a.2.1, a.2.2.1, a.2.2.2.1, a.2.2.2.2.1, a.2.2.2.2.2.1, a.2.2.2.2.2.2.1, a.2.2.2.2.2.2.2.1, a.2.2.2.2.2.2.2.2.1, a.2.2.2.2.2.2.2.2.2.1, a.2.2.2.2.2.2.2.2.2.2.1) = some (pBridge (aB a)) := bridgeS h.b
  unfold spec_AgentOk pAgent
  rw [agent_loopS h, hb]
  simp only [inS, Option.bind_some, aLost, aLast]
  generalize (List.range (aJobs a).length).any _ = u
  show _ = some (!u && (pBridge (aB a) && (_ && (decide ((a.2.2.2.2.2.2.2.2.2.2.2.2.1.length : Int) ≤ 6) && (_)))))
  cases u <;> cases pBridge (aB a) <;> cases decide ((a.2.2.2.2.2.2.2.2.2.2.2.1.length : Int) ≤ 20) <;> cases decide ((a.2.2.2.2.2.2.2.2.2.2.2.2.1.length : Int) ≤ 6) <;> cases pIn a.2.2.2.2.2.2.2.2.2.2.2.2.2.1 0 1000000 <;> cases pIn a.2.2.2.2.2.2.2.2.2.2.2.2.2.2 0 1000000 <;> rfl
theorem bind_wf {x : Bind} (h : Cs.wf cBind x) : XLe maxLen x := by
  simp only [cBind, Cs.wf, CT.wf] at h
  exact ⟨h.1.1, h.2.2.2.1, h.2.2.2.2.1⟩
theorem job_wf {j : Job} (h : Cs.wf cJob j) : JLe maxLen j := by
  simp only [cJob, Cs.wf, CT.wf] at h
  obtain ⟨_, h1, _, _, _, _, _, h2, _, h3, h4, h5, h6, h7, _⟩ := h
  refine ⟨h1.1, ⟨h2.1, fun x hx => bind_wf ?_⟩, ⟨h3, h4.1, h5.1, h6.1, h7.1⟩⟩
  have := h2.2 x hx
  simpa only [cBind, Cs.wf, CT.wf] using this
theorem agent_wf {a : Agent} (h : Cs.wf cAgent a) : ALe maxLen a := by
  simp only [cAgent, Cs.wf, CT.wf] at h
  obtain ⟨_, h1, h2, h3, h4, h5, _, _, _, _, _, h6, h7, _⟩ := h
  refine ⟨⟨h1, h2.1, h3.1, h4.1, h5.1⟩, h6, h7.1, fun x hx => job_wf ?_⟩
  have := h7.2 x hx
  simpa only [cJob, Cs.wf, CT.wf] using this
theorem job_jwf {j : Job} (h : Cs.wf cJob j) (hl : JLe M j) : JWf j := by
  obtain ⟨_, l1, l2⟩ := hl
  refine ⟨l1, ?_⟩
  obtain ⟨_, l2, l3, l4, l5⟩ := l2
  have hM : M < 9223372036854775807 := by decide
  refine ⟨by omega, by omega, by omega, by omega, fun r hr => ?_⟩
  simp only [cJob, Cs.wf, CT.wf] at h
  obtain ⟨_, _, _, _, _, _, _, _, _, _, _, _, h4, _⟩ := h
  exact (h4.2 r hr).2.2
theorem agent_awf {a : Agent} (h : Cs.wf cAgent a) (hl : ALe M a) : AWf a := by
  obtain ⟨⟨_, l2, l3, l4, l5⟩, l6, l7⟩ := hl
  have hM : M < 9223372036854775807 := by decide
  simp only [cAgent, Cs.wf, CT.wf] at h
  obtain ⟨_, _, _, _, h4, _, _, _, _, _, _, _, h7, _⟩ := h
  refine ⟨⟨by omega, by omega, by omega, by omega, fun r hr => (h4.2 r hr).2.2⟩, l7.1, fun x hx => job_jwf ?_ (l7.2 x hx)⟩
  have := h7.2 x hx
  simpa only [cJob, Cs.wf, CT.wf] using this
theorem fnExactAgentOk_pure (a : Agent) (h : Cs.wf cAgent a) : laws_FnExactAgentOk a = some true := by
  obtain ⟨r, h1, h2⟩ := szAgent (a := a) (left := 1048576) ⟨by omega, by omega⟩ (agent_wf h)
  unfold laws_FnExactAgentOk
  rw [h1, Option.bind_some]
  rcases h2 with rfl | ⟨k1, k2, k3⟩
  · rfl
  · have ha := agent_awf h k3
    rw [dnlt (by omega), cond_false, toAgent k3, Option.bind_some, agentS ha, Option.bind_some, Option.bind_some, agentT ha, Option.bind_some]
    simp [eqAgent k3]
end Go.V.W
