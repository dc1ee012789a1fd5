/- The law FnBulks: part of the proof that for every input it returns true. No condition. -/
import Derived.Test.YtdhcmckfgnommaaGreatFnBulksB
namespace Go.V.W
set_option linter.unusedVariables false
set_option linter.unusedSimpArgs false
noncomputable def chain (b : Bridge) : Nat → List Int → List Bind
  | 0, _ => []
  | n + 1, o => nextV b o :: chain b n (nextV b o).1
theorem chain_len (b : Bridge) : ∀ (n : Nat) (o : List Int), (chain b n o).length = n
  | 0, _ => rfl
  | n + 1, o => by show (chain b n _).length + 1 = n + 1; rw [chain_len b n]
theorem nextAt {b : Bridge} (h : BOk b) {o : List Int} (ho : o.length ≤ 1000) {j : Nat} (hj : At (mib b) o j) : nextV b o = (if h : j < (mib b).length then (mib b)[j] else (o, 130, 0, [], [])) := by
  unfold nextV; rw [nextX h ho hj]; rfl
theorem chain_get {b : Bridge} (h : BOk b) : ∀ (n : Nat) {o : List Int} {j : Nat}, o.length ≤ 10 → At (mib b) o j → ∀ i (hi : i < (chain b n o).length),
    (∀ hl : j + i < (mib b).length, (chain b n o)[i] = (mib b)[j + i]) ∧ (¬ j + i < (mib b).length → (chain b n o)[i].2.1 = 130)
  | 0, o, j, ho, hj, i, hi => by simp [chain] at hi
  | n + 1, o, j, ho, hj, i, hi => by
    have hnx := nextAt h (by omega) hj
    by_cases hl : j < (mib b).length
    · rw [dif_pos hl] at hnx
      have hj' : At (mib b) (nextV b o).1 (j + 1) := by rw [hnx]; exact at_self (mib_pair h) hl
      have ho' : (nextV b o).1.length ≤ 10 := by rw [hnx]; exact (mib_each h _ (List.getElem_mem hl)).1.n10
      cases i with
      | zero =>
        refine ⟨fun _ => ?_, fun hq => absurd hl (by simpa using hq)⟩
        show nextV b o = _
        simpa using hnx
      | succ i =>
        have hi' : i < (chain b n (nextV b o).1).length := by rw [chain_len] at hi ⊢; omega
        obtain ⟨c1, c2⟩ := chain_get h n ho' hj' i hi'
        refine ⟨fun hq => ?_, fun hq => ?_⟩
        · show (chain b n (nextV b o).1)[i] = _
          rw [c1 (by omega)]
          congr 1; omega
        · show (chain b n (nextV b o).1)[i].2.1 = 130
          exact c2 (by omega)
    · rw [dif_neg hl] at hnx
      have hj' : At (mib b) (nextV b o).1 j := by rw [hnx]; exact hj
      have ho' : (nextV b o).1.length ≤ 10 := by rw [hnx]; exact ho
      cases i with
      | zero =>
        refine ⟨fun hq => absurd hq (by omega), fun _ => ?_⟩
        show (nextV b o).2.1 = 130
        rw [hnx]
      | succ i =>
        have hi' : i < (chain b n (nextV b o).1).length := by rw [chain_len] at hi ⊢; omega
        obtain ⟨c1, c2⟩ := chain_get h n ho' hj' i hi'
        refine ⟨fun hq => absurd hq (by omega), fun hq => ?_⟩
        show (chain b n (nextV b o).1)[i].2.1 = 130
        exact c2 (by omega)
/-- What is told last. -/
def lastO (l : List Bind) (o : List Int) : List Int := match l.getLast? with | some x => x.1 | none => o
theorem chain_snoc (b : Bridge) : ∀ (n : Nat) (o : List Int), chain b (n + 1) o = chain b n o ++ [nextV b (lastO (chain b n o) o)]
  | 0, o => rfl
  | n + 1, o => by
    have ih := chain_snoc b n (nextV b o).1
    show nextV b o :: chain b (n + 1) (nextV b o).1 = nextV b o :: (chain b n (nextV b o).1 ++ [nextV b (lastO (nextV b o :: chain b n (nextV b o).1) o)])
    rw [ih]
    congr 3
    unfold lastO
    cases n with
    | zero => rfl
    | succ n => rfl
theorem chain_take (b : Bridge) : ∀ (m n : Nat) (o : List Int), m ≤ n → (chain b n o).take m = chain b m o
  | 0, n, o, _ => rfl
  | m + 1, n + 1, o, h => by
    show nextV b o :: (chain b n _).take m = nextV b o :: chain b m _
    rw [chain_take b m n _ (by omega)]
  | m + 1, 0, o, h => by omega
theorem rnds_chain {b : Bridge} : ∀ (n : Nat) (out : List Bind) (o : List Int), out.length + n ≤ 10 → (rnds b n (out, [o])).1 = out ++ chain b n o
  | 0, out, o, h => by show out = out ++ []; rw [List.append_nil]
  | n + 1, out, o, h => by
    have hc : 0 < ([o] : List (List Int)).length ∧ out.length < 10 := ⟨by simp, by omega⟩
    rw [show rnds b (n + 1) (out, [o]) = rnds b n (inn b (out, [o])) from if_pos hc]
    have hm : innL (out, [o]) = 1 := by unfold innL; show min 1 (10 - out.length) = 1; omega
    have hi : inn b (out, [o]) = (out ++ [nextV b o], [(nextV b o).1]) := by
      unfold inn
      rw [hm]; rfl
    rw [hi, rnds_chain n _ _ (by rw [List.length_append]; show out.length + 1 + n ≤ 10; omega), List.append_assoc]; rfl
theorem shr_max {f : List Bind → Bool} : ∀ {n : Nat} {l t : List Bind}, l.length = n → f l = false → shr f n l = some t → ∃ m, m < n ∧ t = l.take m ∧ f t = true ∧ f (l.take (m + 1)) = false
  | 0, l, t, _, _, h => by cases h
  | n + 1, l, t, hl, hf, h => by
    unfold shr at h
    split at h
    · rename_i hft
      cases h
      refine ⟨n, by omega, rfl, hft, ?_⟩
      rw [List.take_of_length_le (by omega)]; exact hf
    · rename_i hft
      obtain ⟨m, m1, m2, m3, m4⟩ := shr_max (by rw [List.length_take]; omega) (by simpa using hft) h
      refine ⟨m, by omega, ?_, m3, ?_⟩
      · rw [m2, List.take_take, Nat.min_eq_left (by omega)]
      · rw [List.take_take, Nat.min_eq_left (by omega)] at m4; exact m4
theorem shr_has {f : List Bind → Bool} (h0 : f [] = true) : ∀ {n : Nat} {l : List Bind}, 0 < n → ∃ t, shr f n l = some t
  | 0, l, h => by omega
  | n + 1, l, h => by
    unfold shr
    split
    · exact ⟨_, rfl⟩
    · rename_i hft
      cases n with
      | zero => rw [List.take_zero] at hft; exact absurd h0 hft
      | succ n => exact shr_has h0 (by omega)
theorem lastT (l : List Bind) (o : List Int) (hn : l.length ≤ 1000) : laws_last l o = some (lastO l o) := by
  unfold laws_last lastO
  cases hl : l with
  | nil => rfl
  | cons x r =>
    have hlen : (x :: r).length = r.length + 1 := rfl
    rw [hl] at hn
    rw [beq_eq_false_iff_ne.2 (by rw [hlen]; omega), cond_false, hlen, w64_id (by omega) (by omega), show ((r.length + 1 : Nat) : Int) - 1 = ((r.length : Nat) : Int) by omega, at_nat (by rw [hlen]; omega), Option.bind_some]
    rw [List.getLast?_eq_getElem?, show (x :: r).length - 1 = r.length from rfl, List.getElem?_eq_getElem (show r.length < (x :: r).length by rw [hlen]; omega)]
theorem fnBulks_pure (code : List Int) (hw : Cs.wf (.one (.sl (.one (.int .u8)))) code) : laws_FnBulks code = some true := by
  have hM : M = 1048576 := rfl
  unfold laws_FnBulks laws_big
  by_cases hbig : (code.length : Int) > 1048576
  · simp only [decide_eq_true hbig, Option.bind_some, cond_true]
  simp only [decide_eq_false hbig, Option.bind_some, cond_false]
  obtain ⟨b, o, e, hb, ho⟩ := namedD (code := code) (by omega)
  obtain ⟨a, ha⟩ := atE (bytesW hw) (by omega) (i := 2) (by omega) (by omega)
  have ho10 := ho.n10
  have hpo := nm_pOid ho
  rw [e, Option.bind_some, ha, Option.bind_some]
  simp only
  have hmod : (a : Int).tmod 7 = ((a % 7 : Nat) : Int) := by rw [Int.tmod_eq_emod_of_nonneg (by omega)]; omega
  rw [hmod]
  have hn6 : a % 7 < 7 := Nat.mod_lt _ (by omega)
  generalize a % 7 = n at hn6
  have hxo : xOk (o, 5, 0, [], []) = true := by unfold xOk; rw [hpo]; rfl
  have hpp : pPdu (165, 1, 0, (n : Int), [(o, 5, 0, [], [])]) = true := pPdu_of (by intro x hx; rw [List.mem_singleton] at hx; subst hx; exact hxo) (by simp) (show pIn 1 (-2147483648) 2147483647 = true by decide) (by
    show (pIn 0 0 1000 && pIn (n : Int) 0 1000) = true
    rw [inP (by omega) (by omega), inP (by omega) (by omega)]; rfl)
  obtain ⟨_, d2, d3, _, _⟩ := done_kind hb hpp (show ((165 : Int) != 162) = true by decide)
  have hq : askP b (165, 1, 0, (n : Int), [(o, 5, 0, [], [])]) = true := by unfold askP; rw [hb.ok, hpp]; rfl
  have hbulk : bulkV b (165, 1, 0, (n : Int), [(o, 5, 0, [], [])]) = chain b n o := by
    unfold bulkV bulkS
    have h0 : onceN (165, 1, 0, (n : Int), [(o, 5, 0, [], [])]) = 0 := by unfold onceN; show min (0 : Int).toNat _ = 0; simp
    rw [h0]
    show (rnds b ((n : Int)).toNat ([], [o])).1 = _
    rw [Int.toNat_natCast, rnds_chain n [] o (by simp; omega), List.nil_append]
  have hans : ansV b (165, 1, 0, (n : Int), [(o, 5, 0, [], [])]) = (b, 162, 1, 0, 0, chain b n o) := by
    unfold ansV
    rw [hbulk]; rfl
  -- what is told: as many as fit
  have key : ∃ m, m ≤ n ∧ doneV b (165, 1, 0, (n : Int), [(o, 5, 0, [], [])]) = (b, 162, 1, 0, 0, chain b m o) ∧ (m = n ∨ (m < n ∧ fitP (162, 1, 0, 0, chain b (m + 1) o) = false)) := by
    unfold doneV
    rw [hans]
    cases hf : fitP (162, 1, 0, 0, chain b n o) with
    | true => exact ⟨n, Nat.le_refl _, rfl, .inl rfl⟩
    | false =>
      have h0 : fitP (162, 1, 0, 0, []) = true := by decide
      have hn0 : 0 < n := by
        rcases Nat.eq_zero_or_pos n with h | h
        · subst h; rw [show chain b 0 o = [] from rfl, h0] at hf; cases hf
        · exact h
      obtain ⟨t, ht⟩ := shr_has (f := fun t => fitP (162, 1, 0, 0, t)) h0 (n := (chain b n o).length) (l := chain b n o) (by rw [chain_len]; exact hn0)
      obtain ⟨m, m1, m2, m3, m4⟩ := shr_max rfl hf ht
      rw [chain_len] at m1
      rw [chain_take b m n o (by omega)] at m2
      rw [chain_take b (m + 1) n o (by omega)] at m4
      refine ⟨m, by omega, ?_, .inr ⟨m1, m4⟩⟩
      show lessV b _ = _
      unfold lessV
      rw [hbulk]
      have e165 : ((165, 1, 0, (n : Int), [(o, 5, 0, [], [])]) : Pdu).1 == 165 := rfl
      have e165' : (((165, 1, 0, (n : Int), [(o, 5, 0, [], [])]) : Pdu).1 == 165) = true := e165
      have ht' : shr (fun t => fitP (162, ((165, 1, 0, (n : Int), [(o, 5, 0, [], [])]) : Pdu).2.1, 0, 0, t)) (chain b n o).length (chain b n o) = some t := ht
      rw [e165', cond_true, ht', m2]
  obtain ⟨m, hmn, hdone, hmax⟩ := key
  have hrep : impl_ReplyOf b (165, 1, 0, (n : Int), [(o, 5, 0, [], [])]) = some (b, (162, 1, 0, 0, chain b m o), true) := by
    rw [replyT hb.w hb.le (pdu_xs hpp)]
    unfold replyV
    rw [hq, hdone]; rfl
  rw [hrep, Option.bind_some]
  simp only [Bool.not_true, cond_false]
  rw [chain_len, decide_eq_false (by omega), Option.bind_some, cond_false]
  obtain ⟨j, hj⟩ := at_of (mib_pair hb) o
  rw [walkX hb (by omega) hj (by omega), Option.bind_some]
  have hmle := mib_le hb
  have hwl : (((mib b).drop j).take n).length = min n ((mib b).length - j) := by rw [List.length_take, List.length_drop]
  have hlp : loop (fun z => laws_FnBulks_l0 (b, (162, 1, 0, 0, chain b m o), true) (((mib b).drop j).take n) z) 0 = some (.inl ()) := by
    obtain ⟨v, e1, rfl⟩ := loop_inv (step := fun z => laws_FnBulks_l0 (b, (162, 1, 0, 0, chain b m o), true) (((mib b).drop j).take n) z) (fun k z => z = (k : Int)) m (fun v => v = .inl ())
      (fun k z hk e => by
        subst e
        refine .inl ⟨_, ?_, rfl⟩
        have hkl : k < (chain b m o).length := by rw [chain_len]; exact hk
        obtain ⟨c1, c2⟩ := chain_get hb m ho10 hj k hkl
        unfold laws_FnBulks_l0
        simp only [dlt (show (k : Int) < ((chain b m o).length : Int) by omega), cond_true, at_nat hkl, Option.bind_some]
        by_cases hkw : k < (((mib b).drop j).take n).length
        · have hjk : j + k < (mib b).length := by rw [hwl] at hkw; omega
          have hw : (((mib b).drop j).take n)[k] = (mib b)[j + k] := by rw [List.getElem_take, List.getElem_drop]
          have hme := mib_each hb _ (List.getElem_mem hjk)
          have hml := hme.1.n10
          simp only [dlt (show (k : Int) < ((((mib b).drop j).take n).length : Int) by omega), cond_true, at_nat hkw, Option.bind_some, hw, c1 hjk]
          rw [sameO (by omega), Option.bind_some, beq_self_eq_true, sameV1 (by rw [hme.2.o]; show 0 < 9223372036854775807; decide), decide_eq_false (show ¬ (k : Int) ≥ ((((mib b).drop j).take n).length : Int) by omega)]
          simp only [Bool.not_true, cond_false, Option.bind_some]
          rw [w64_nat (by omega)]
        · have hjk : ¬ j + k < (mib b).length := by rw [hwl] at hkw; omega
          simp only [dnlt (show ¬ (k : Int) < ((((mib b).drop j).take n).length : Int) by omega), cond_false, Option.bind_some, decide_eq_true (show (k : Int) ≥ ((((mib b).drop j).take n).length : Int) by omega), cond_true, c2 hjk]
          rw [w64_nat (by omega)]; rfl)
      (fun z e => by
        subst e
        refine ⟨_, ?_, rfl⟩
        unfold laws_FnBulks_l0
        simp only [chain_len]
        rw [dnlt (by omega), cond_false]) (x := 0) rfl
    exact e1
  rw [hlp, Option.bind_some, Sum.elim_inl]
  rcases hmax with rfl | ⟨hm, hnf⟩
  · rw [beq_self_eq_true, cond_true]; rfl
  · rw [beq_eq_false_iff_ne.2 (by omega), cond_false, app_nil (by rw [chain_len]; omega), Option.bind_some, lastT _ _ (by rw [chain_len]; omega), Option.bind_some]
    have hlo : (lastO (chain b m o) o).length ≤ 10 := by
      unfold lastO
      cases hg : (chain b m o).getLast? with
      | none => exact ho10
      | some x =>
        have hx : x ∈ chain b m o := List.mem_of_getLast? hg
        obtain ⟨i, hi, rfl⟩ := List.getElem_of_mem hx
        obtain ⟨c1, c2⟩ := chain_get hb m ho10 hj i hi
        have hok : ∀ (q : Nat) (u : List Int), pOid u = true → ∀ y ∈ chain b q u, pOid y.1 = true := by
          intro q
          induction q with
          | zero => intro u _ y hy; simp [chain] at hy
          | succ q ih =>
            intro u hu y hy
            rcases List.mem_cons.1 hy with rfl | hy
            · exact xOk_oid (nextOk hb hu)
            · exact ih _ (xOk_oid (nextOk hb hu)) y hy
        exact pOid_len (hok m o hpo _ hx)
    rw [(nextE hb (by omega)).1, Option.bind_some, app_small (by rw [chain_len]; show m + 1 ≤ _; omega), Option.bind_some, ← chain_snoc b m o]
    have hple : PLe M (162, 1, 0, 0, chain b (m + 1) o) := by
      refine ⟨by show (chain b (m + 1) o).length ≤ 1048576; rw [chain_len]; omega, fun x hx => ?_⟩
      have hok : ∀ (q : Nat) (u : List Int), pOid u = true → ∀ y ∈ chain b q u, xOk y = true := by
        intro q
        induction q with
        | zero => intro u _ y hy; simp [chain] at hy
        | succ q ih =>
          intro u hu y hy
          rcases List.mem_cons.1 hy with rfl | hy
          · exact nextOk hb hu
          · exact ih _ (xOk_oid (nextOk hb hu)) y hy
      exact bind_small (hok _ o hpo x hx)
    rw [fitsT hple, Option.bind_some, hnf]; rfl
end Go.V.W

