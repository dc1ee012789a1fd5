/- The law FnTexts: part of the proof that for every input it returns true. No condition. -/
import Derived.Test.YtpfjdhdmkacnbaaGreatDoorFnTextsB
namespace Go.V.W
set_option linter.unusedVariables false
set_option linter.unusedSimpArgs false
def cntX (l : List UInt8) : Nat := (l.filter fun b => (b.toNat : Int) == 32).length
theorem cntX_app (l m : List UInt8) : cntX (l ++ m) = cntX l + cntX m := by simp [cntX, List.filter_append]
theorem cntX_le (l : List UInt8) : cntX l ≤ l.length := List.length_filter_le _ _
theorem cntX_one (b : UInt8) : cntX [b] = cond ((b.toNat : Int) == 32) 1 0 := by
  unfold cntX
  cases h : ((b.toNat : Int) == 32) with
  | true => simp [List.filter, h]
  | false => simp [List.filter, h]
theorem cntX_wd (v : Int) : cntX (wd v) = 0 := by
  unfold wd
  cases v == 1 <;> cases v == 2 <;> cases v == 3 <;> rfl
theorem cntX_rol (b : Bridge) : ∀ k, cntX (Lib.join (rolW b (k + 1)) [32]) = k
  | 0 => by
    rw [rolW_succ]
    show cntX (Lib.join (rolW b 0 ++ _) [32]) = 0
    rw [show rolW b 0 = [] from rfl, List.nil_append, Lib.join_one, cntX_wd]
  | k + 1 => by
    have hne : rolW b (k + 1) ≠ [] := by
      intro e
      have := congrArg List.length e
      rw [rolW_len, List.length_nil] at this; omega
    rw [rolW_succ b (k + 1), join_snoc _ _ hne, cntX_app, cntX_app, cntX_rol b k, cntX_wd]
    rfl
theorem cnt_loop {t : List UInt8} (ht : t.length ≤ 100000000) : loop (fun z => laws_FnTexts_l0 t z.1 z.2) (0, 0) = some (cntX t : Int) := by
  obtain ⟨d, d1, rfl⟩ := loop_inv (step := fun z : Int × Int => laws_FnTexts_l0 t z.1 z.2) (fun k z => z = ((cntX (t.take k) : Int), (k : Int))) t.length (fun d => d = (cntX t : Int))
    (fun k z hk hz => by
      subst hz
      have hc := cntX_le (t.take k)
      have hl : (t.take k).length ≤ k := by rw [List.length_take]; omega
      refine .inl ⟨(((cntX (t.take (k + 1)) : Nat) : Int), ((k + 1 : Nat) : Int)), ?_, rfl⟩
      show laws_FnTexts_l0 t (cntX (t.take k) : Int) (k : Int) = _
      unfold laws_FnTexts_l0
      rw [dlt (by omega), cond_true, at_nat hk, Option.bind_some, w64_nat (k := k) (by omega), w64_nat (k := cntX (t.take k)) (by omega), take_snoc hk, cntX_app, cntX_one]
      cases ((t[k].toNat : Int) == 32) with
      | true => rfl
      | false => rfl)
    (fun z hz => by
      subst hz
      refine ⟨_, ?_, rfl⟩
      show laws_FnTexts_l0 t _ (t.length : Int) = _
      unfold laws_FnTexts_l0
      rw [dnlt (by omega), cond_false, List.take_length])
    (x := (0, 0)) (by simp [cntX])
  exact d1
theorem bndsTx_cons (x : Bind) (l : List Bind) : bndsTx (x :: l) = [10] ++ bndTx x ++ bndsTx l := by simp [bndsTx]
theorem whole_loop {p : Pdu} (h : PLe M p) (hl : p.2.2.2.2.length ≤ 1000) : loop (fun z => laws_FnTexts_l2 p z.1 z.2) ([], w64 ((p.2.2.2.2.length : Int) - 1)) = some (bndsTx p.2.2.2.2) := by
  rw [w64_id (by omega) (by omega)]
  obtain ⟨d, d1, rfl⟩ := loop_inv (step := fun z : List UInt8 × Int => laws_FnTexts_l2 p z.1 z.2) (fun k z => k ≤ p.2.2.2.2.length ∧ z = (bndsTx (p.2.2.2.2.drop (p.2.2.2.2.length - k)), ((p.2.2.2.2.length : Int) - k) - 1)) p.2.2.2.2.length (fun d => d = bndsTx p.2.2.2.2)
    (fun k z hk ⟨hk0, hz⟩ => by
      subst hz
      obtain ⟨j, hj⟩ : ∃ j, p.2.2.2.2.length = k + j + 1 := ⟨p.2.2.2.2.length - k - 1, by omega⟩
      have hjl : j < p.2.2.2.2.length := by omega
      have hb := bndTx_len p.2.2.2.2[j]
      have hd := bndsTx_len (p.2.2.2.2.drop (j + 1))
      have hd2 : (p.2.2.2.2.drop (j + 1)).length * 431 ≤ 1000 * 431 := Nat.mul_le_mul_right _ (by rw [List.length_drop]; omega)
      have e1 : p.2.2.2.2.length - k = j + 1 := by omega
      have e2 : ((p.2.2.2.2.length : Int) - k) - 1 = (j : Int) := by omega
      have e3 : p.2.2.2.2.length - (k + 1) = j := by omega
      have e4 : ((p.2.2.2.2.length : Int) - ((k + 1 : Nat) : Int)) - 1 = (j : Int) - 1 := by omega
      refine .inl ⟨(bndsTx (p.2.2.2.2.drop (p.2.2.2.2.length - (k + 1))), ((p.2.2.2.2.length : Int) - ((k + 1 : Nat) : Int)) - 1), ?_, by omega, rfl⟩
      rw [e1, e2, e3, e4]
      show laws_FnTexts_l2 p (bndsTx (p.2.2.2.2.drop (j + 1))) (j : Int) = _
      unfold laws_FnTexts_l2
      rw [decide_eq_true (show (j : Int) ≥ 0 by omega), cond_true, ix_nat hjl, Option.bind_some, List.getElem?_eq_getElem hjl, Option.bind_some, bindTextT (h.2 _ (List.getElem_mem hjl)), Option.bind_some, catT (by rw [List.length_singleton]; omega), Option.bind_some, catT (by simp only [List.length_append, List.length_singleton]; omega), Option.bind_some, w64_id (by omega) (by omega),
        List.drop_eq_getElem_cons hjl, bndsTx_cons])
    (fun z ⟨_, hz⟩ => by
      subst hz
      refine ⟨bndsTx p.2.2.2.2, ?_, rfl⟩
      rw [Nat.sub_self, List.drop_zero, show ((p.2.2.2.2.length : Int) - (p.2.2.2.2.length : Int)) - 1 = -1 by omega]
      show laws_FnTexts_l2 p _ (-1) = _
      unfold laws_FnTexts_l2
      rfl)
    (x := ([], (p.2.2.2.2.length : Int) - 1)) ⟨by omega, by simp [bndsTx]⟩
  exact d1
theorem headX_ne (p : Pdu) : headX p ≠ [] := by
  unfold headX
  intro h
  have := congrArg List.length h
  simp at this
theorem fnTexts_pure (p0 : List Int) (h : Cs.wf (.one (.sl (.one (.int .u8)))) p0) : laws_FnTexts p0 = some true := by
  unfold laws_FnTexts laws_big
  rw [Option.bind_some]
  by_cases hbig : (p0.length : Int) > 1048576
  · rw [decide_eq_true hbig]; rfl
  · rw [decide_eq_false hbig, cond_false]
    obtain ⟨c0, n0, w0⟩ := newD (code := p0) (by omega)
    obtain ⟨c1, p, e1, w1, hp⟩ := drPduBent w0
    obtain ⟨c2, b, e2, w2, hb, hB⟩ := anyL w0
    obtain ⟨c3, v, e3, w3, hv1, hv2⟩ := drValAny w0
    obtain ⟨c4, o, e4, w4, ho⟩ := drOidAny w0
    obtain ⟨c5, y, e5, w5, hy1, hy2⟩ := drValAny w4
    have hpl : PLe M p := hp.le (by decide)
    have hpn : p.2.2.2.2.length ≤ 1000 := by have := hp.1; omega
    have hv : VLe M v := ⟨by show _ ≤ 1048576; omega, by show _ ≤ 1048576; omega⟩
    have hx : XLe M (o, y.1, y.2.1, y.2.2.1, y.2.2.2) := ⟨by show o.length ≤ 1048576; omega, by show y.2.2.1.length ≤ 1048576; omega, by show y.2.2.2.length ≤ 1048576; omega⟩
    have hbl : b.2.2.1.length ≤ 1048576 := hB.2.1
    have hrl : (rolX b).length ≤ 100000000 := by
      have := join_len (sep := [32]) (m := 4) (xs := rolW b b.2.2.1.length) (by simp) rolW_in
      rw [rolW_len] at this
      unfold rolX; omega
    unfold spec_DrawPduText spec_DrawRolesText spec_DrawValText spec_DrawBindText
    rw [n0]
    simp only [Option.bind_some, e1, e2, e3, e4, e5]
    rw [pduTextT hpl, Option.bind_some, rolesT hB.2.1, Option.bind_some, cnt_loop hrl, Option.bind_some]
    try simp only
    rw [whole_loop hpl hpn, Option.bind_some, pduS hpl, pduTextS hpl, rolesS hB.2.1, valTextT hv, valTextS hv, bindTextT hx, bindTextS hx]
    simp only [Option.bind_some]
    have hbx := bndsTx_len p.2.2.2.2
    have hbx2 : p.2.2.2.2.length * 431 ≤ 1000 * 431 := Nat.mul_le_mul_right _ hpn
    have kports : (cond ((b.2.2.1.length : Int) == 0) (some true) (some ((cntX (rolX b) : Int) == (w64 ((b.2.2.1.length : Int) - 1)))) : Option Bool) = some true := by
      cases hz : ((b.2.2.1.length : Int) == 0) with
      | true => rfl
      | false =>
        have hz' : (b.2.2.1.length : Int) ≠ 0 := by simpa using hz
        obtain ⟨k, hk⟩ : ∃ k, b.2.2.1.length = k + 1 := ⟨b.2.2.1.length - 1, by omega⟩
        rw [cond_false, w64_id (by omega) (by omega)]
        have : cntX (rolX b) = k := by unfold rolX; rw [hk]; exact cntX_rol b k
        rw [this, hk, show (((k + 1 : Nat) : Int) - 1) = (k : Int) by omega, beq_self_eq_true]
    rw [kports]
    cases hq : pPdu p with
    | false =>
      have e : pduX p = [] := by unfold pduX; rw [hq]; rfl
      rw [e]
      simp
    | true =>
      have e : pduX p = headX p ++ bndsTx p.2.2.2.2 := by unfold pduX; rw [hq]; rfl
      have hhl : (headX p).length ≤ 1000 := by
        obtain ⟨_, hi, hab⟩ := pPdu_facts hq
        have hk := kindX_len p.1
        have hn := itoa_len (n := p.2.1) (by omega) (by omega)
        unfold headX
        cases ht : (p.1 == 162 || p.1 == 165) with
        | false => simp only [cond_false, List.length_append, List.length_singleton, List.length_nil]; omega
        | true =>
          obtain ⟨ha, hb'⟩ := hab ht
          have h1 := itoa_len (n := p.2.2.1) (by omega) (by omega)
          have h2 := itoa_len (n := p.2.2.2.1) (by omega) (by omega)
          simp only [cond_true, List.length_append, List.length_singleton]; omega
      have ecut : cut (pduX p) (w64 (((pduX p).length : Int) - ((bndsTx p.2.2.2.2).length : Int))) ((pduX p).length : Int) = some (bndsTx p.2.2.2.2) := by
        rw [e, List.length_append, show (((headX p).length + (bndsTx p.2.2.2.2).length : Nat) : Int) - ((bndsTx p.2.2.2.2).length : Int) = ((headX p).length : Int) by omega, w64_id (by omega) (by omega)]
        unfold cut
        rw [if_pos (by omega), if_pos (by omega), if_pos (by rw [List.length_append]; omega), Int.toNat_natCast, Int.toNat_natCast, List.take_of_length_le (by rw [List.length_append]; omega), List.drop_left]
      have hlt : ¬ ((pduX p).length : Int) < ((bndsTx p.2.2.2.2).length : Int) := by rw [e, List.length_append]; omega
      rw [ecut]
      simp only [Option.bind_some]
      rw [decide_eq_false hlt]
      have hne : (pduX p == []) = false := by
        rw [beq_eq_false_iff_ne, e]
        intro hc
        exact headX_ne p (List.append_eq_nil_iff.1 hc).1
      rw [hne]
      simp
end Go.V.W

