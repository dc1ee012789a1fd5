/- V: a run of the model's code over plain data, and that it is what the machine does. Part 3 of 4. No condition. -/
import Derived.Test.YtpfjdhdmkacnbaaGreatDoorV2
import Derived.LoopN
import Derived.Laws.Sem
import Derived.ChangeOld
import Derived.WideShapes
import Derived.ChangeArms
namespace Go.V
set_option linter.unusedVariables false
set_option linter.unusedSimpArgs false
variable {P : Program} {w0 : World} {T N : Nat → Prop} {S : St} {g : Gh} {w w' : World} {a : Act} {o : Oper} {G : Env} {uid rid : Nat} {en : List (Name × Entry)} {Q : Exit → Act → World → Prop}

theorem run_callFunc {f : FuncId} {fn : Func} {c : Code} (hf : P.funcs[f]? = some fn) (hn : (fn.name == "runtime.NumGoroutine") = false) (hb : fn.body = some c) (args : Array Value) : (callFunc f args).run P w = .ok (.enter f args) w := by
  simp only [callFunc, Sem.run_bind, run_program, Result.andThen, hf, hn]
  simp [hb]
theorem args_rep (h : Inv w0 T N S g w a) : ∀ (xs : List Operand), All2 (AVRep (dom S.en) g w) (xs.map S.eval) (xs.map a.eval)
  | [] => trivial
  | x :: xs => ⟨eval_rep h x, args_rep h xs⟩
theorem call_wp (h : Inv w0 T N S g w a) (hG : Good P G) {f : Operand} {args : Array Operand} {c : Call} (hc : c.callee = .value f) (hargs : c.args = args) (ho : o.op = .call c) {e : Eff} {L : List Name}
    (hr : (match S.eval f with
      | .cell (.fn g caps) => (match find G.fns g with
        | some F => cond G.trees .fail (effCall uid F (args.toList.map S.eval ++ caps.map fun n => AV.cell (.box n 0)))
        | none => .fail)
      | _ => .fail : Rd Eff).Runs (find S.en) e L) (hd : ∀ d, o.dst = some d → d < a.tmps.size) {K : Act → World → Prop}
    (hK : ∀ v w' g', Inv w0 T N (S.put o.dst e) g' w' (a.put o.dst v) → Le (dom S.en) g w (dom (e.ents ++ S.en)) g' w' → K (a.put o.dst v) w') : o.wp P a w K Q := by
  split at hr
  · rename_i fid caps e1
    have hfv := eval_cell h e1
    obtain ⟨cvs, hfv, hcaps⟩ := hfv
    -- a call of a function that knows of no variable of ours
    have plain : ∀ {fn : Func} {cd : Code}, P.funcs[fid]? = some fn → (fn.name == "runtime.NumGoroutine") = false → fn.body = some cd → caps = [] →
        (Calls P fid (args.toList.map a.eval).toArray w fun
          | .returned v, w' => ∃ g', MS w0 T N (e.ents ++ S.en) g' w' ∧ Le (dom S.en) g w (dom (e.ents ++ S.en)) g' w' ∧ AVRep (dom (e.ents ++ S.en)) g' w' e.val v
          | _, _ => False) → o.wp P a w K Q := by
      intro fn cd hf hn hb hcaps0 hcalls
      subst hcaps0
      have hcv : cvs.toList = [] := by
        cases hq : cvs.toList with
        | nil => rfl
        | cons u l => rw [hq] at hcaps; exact hcaps.elim
      unfold Oper.wp
      have hrun : (execOp a.eval o).run P w = .ok (.enter fid (args.toList.map a.eval).toArray) w := by
        simp only [execOp, ho, resolve, hc, hargs, hfv, Deferred.ofValue, Sem.run_bind, Sem.run_pure, Result.andThen, invoke]
        rw [run_callFunc hf hn hb]
        congr 2
        apply Array.ext'; simp [hcv]
      rw [hrun, Oper.upon_enter]
      refine Calls.mono hcalls fun en' w' he => ?_
      cases en' with
      | returned v =>
        obtain ⟨g', hM, hle, hv⟩ := he
        exact hK v w' g' (h.put hM hle hv hd) hle
      | panicked _ => exact he.elim
      | outgrown => exact he.elim
    split at hr
    · rename_i F hF
      cases ht : G.trees with
      | true =>
        rw [ht] at hr
        exact hr.elim
      | false =>
      rw [ht] at hr
      simp only [cond_false] at hr
      obtain ⟨⟨fn, cd, hf, hn, hb⟩, hmeets⟩ := hG.fns fid F hF
      unfold effCall at hr
      obtain ⟨b, L1, L2, _, h1, hr⟩ := Rd.runs_bind hr
      obtain ⟨_, L3, L4, _, h2, hr⟩ := Rd.runs_bind hr
      obtain ⟨r, hden, hr⟩ := hr
      obtain ⟨rfl, hdist, hnew⟩ := made_runs hr
      have hcs : All2 (AVRep (dom S.en) g w) (caps.map fun n => AV.cell (.box n 0)) cvs.toList := by
        have key : ∀ (l : List Name) (m : List Value), All2 (fun n u => dom S.en n ∧ (∃ b, g.loc n = .pointer (some ⟨b, 0, none⟩)) ∧ u = g.loc n) l m → All2 (AVRep (dom S.en) g w) (l.map fun n => AV.cell (.box n 0)) m := by
          intro l
          induction l with
          | nil => intro m h; cases m with
            | nil => trivial
            | cons _ _ => exact h.elim
          | cons n l ih => intro m h; cases m with
            | nil => exact h.elim
            | cons u m =>
              obtain ⟨⟨hdn, ⟨b, hb⟩, hu⟩, h'⟩ := h
              exact ⟨⟨hdn, b, hb, hu.trans hb⟩, ih m h'⟩
        exact key caps _ hcaps
      have hcalls := hmeets w0 T N S.en g w uid _ _ b L1 r h.ms ((args_rep h args.toList).append hcs) h1 (Rd.runs_need h2).1 hden hdist hnew
      unfold Oper.wp
      have hrun : (execOp a.eval o).run P w = .ok (.enter fid (args.toList.map a.eval ++ cvs.toList).toArray) w := by
        simp only [execOp, ho, resolve, hc, hargs, hfv, Deferred.ofValue, Sem.run_bind, Sem.run_pure, Result.andThen, invoke]
        rw [run_callFunc hf hn hb]
        congr 2
        apply Array.ext'; simp
      rw [hrun, Oper.upon_enter]
      refine Calls.mono hcalls fun en' w' he => ?_
      cases en' with
      | returned v =>
        obtain ⟨g', hM, hle, hv⟩ := he
        exact hK v w' g' (h.put hM hle hv hd) hle
      | panicked _ => exact he.elim
      | outgrown => exact he.elim
    · exact hr.elim
  · exact hr.elim
end Go.V
namespace Go.V
set_option linter.unusedVariables false
set_option linter.unusedSimpArgs false
variable {P : Program} {w0 : World} {T N : Nat → Prop} {S : St} {g : Gh} {w w' : World} {a : Act} {o : Oper} {G : Env} {uid rid : Nat} {en : List (Name × Entry)} {Q : Exit → Act → World → Prop}

theorem eff_wp (h : Inv w0 T N S g w a) (hG : Good P G) {op : Op} (ho : o.op = op) (hp : ∀ c x y, op ≠ .pick c x y) {e : Eff} {L : List Name} (hr : (eff G uid S.eval op).Runs (find S.en) e L) (hd : ∀ d, o.dst = some d → d < a.tmps.size) {K : Act → World → Prop}
    (hK : ∀ v w' g', Inv w0 T N (S.put o.dst e) g' w' (a.put o.dst v) → Le (dom S.en) g w (dom (e.ents ++ S.en)) g' w' → K (a.put o.dst v) w') : o.wp P a w K Q := by
  have fin : Fine P w0 T N S g w a o e → o.wp P a w K Q := fun hf => fine_wp h hf hd hK
  have hr0 := hr
  unfold eff at hr
  split at hr
  case h_1 => obtain ⟨rfl, _⟩ := hr; exact fin (op_move h (.inl ho))
  case h_2 => obtain ⟨rfl, _⟩ := hr; exact fin (op_move h (.inr ho))
  case h_3 => exact absurd rfl (hp _ _ _)
  case h_4 => exact fin (op_alloc h hG.tis ho hr0)
  case h_5 => exact fin (op_box h hG.tis ho hr0)
  case h_6 => exact fin (op_build h hG.tis ho hr0)
  case h_7 => exact fin (op_buildSlice h hG.tis ho hr0)
  case h_8 => exact fin (op_load h hG.tis ho hr0)
  case h_9 => exact fin (op_store h hG.tis ho hr0)
  case h_10 => exact fin (op_nilCheck h ho hr0)
  case h_11 =>
    replace hr := ti_some hr
    obtain ⟨i, hi, hr⟩ := hr
    exact fin (op_bin h hG.tis ho hi (fun xs ys hx hy e L hr => op_agg h hG.tis hG.eqs ho hi hx hy hr) hr)
  case h_12 => exact fin (op_not h ho hr0)
  case h_13 => exact fin (op_neg h ho hr0)
  case h_14 => exact fin (op_convert h hG.tis ho hr0)
  case h_15 => exact fin (op_makeSlice h hG.tis ho hr0)
  case h_16 => exact fin (op_slice h hG.tis ho hr0)
  case h_17 => exact fin (op_fieldAddr h hG.tis ho hr0)
  case h_18 => exact fin (op_indexAddr h hG.tis ho hr0)
  case h_19 => exact fin (op_index h hG.tis ho hr0)
  case h_20 => exact fin (op_extract h ho hr0)
  case h_21 => exact fin (op_makeFunc h ho hr0)
  case h_22 x t =>
    replace hr := ti_some hr
    obtain ⟨i, hi, hr⟩ := hr
    cases hk : lenOk i (S.eval x) with
    | false => rw [hk] at hr; exact hr.elim
    | true => rw [hk] at hr; exact fin (op_len h ho hG.tis hi hk hr)
  case h_23 => exact fin (op_append h hG.tis ho hr0)
  case h_24 => exact fin (op_minmax h .min (.inl rfl) ho hr)
  case h_25 => exact fin (op_minmax h .max (.inr rfl) ho hr)
  case h_26 => exact call_wp h hG rfl rfl ho hr hd hK
  all_goals exact hr.elim
end Go.V
namespace Go.V
set_option linter.unusedVariables false
set_option linter.unusedSimpArgs false
variable {P : Program} {w0 : World} {T N : Nat → Prop} {S : St} {g : Gh} {w w' : World} {a : Act} {o : Oper} {G : Env} {uid rid : Nat} {en : List (Name × Entry)} {Q : Exit → Act → World → Prop} {ops : Array Oper}

theorem effOp_wp (h : Inv w0 T N S g w a) (hG : Good P G) {e : Eff} {L : List Name} (hr : (effOp G uid S.eval o.op).Runs (find S.en) e L) (hd : ∀ d, o.dst = some d → d < a.tmps.size) {K : Act → World → Prop}
    (hK : ∀ v w' g', Inv w0 T N (S.put o.dst e) g' w' (a.put o.dst v) → Le (dom S.en) g w (dom (e.ents ++ S.en)) g' w' → K (a.put o.dst v) w') : o.wp P a w K Q := by
  by_cases hp : ∃ c x y, o.op = .pick c x y
  · obtain ⟨c, x, y, hp⟩ := hp
    rw [hp] at hr
    exact fine_wp h (op_pick h hp hr) hd hK
  · rw [effOp_eq fun c x y he => hp ⟨c, x, y, he⟩] at hr
    exact eff_wp h hG rfl (fun c x y he => hp ⟨c, x, y, he⟩) hr hd hK
theorem yielded_bool (h : Inv w0 T N S g w a) {j : Nat} {t : Tmp} {b : Bool} (hj : dstOf ops.toList j = some t) (ht : S.tmp t = .cell (.bool b)) : yielded ops a.tmps j = some b := by
  have hv := h.tmps t
  rw [ht] at hv
  have hv : a.tmps.getD t undef = .bool b := hv
  unfold dstOf at hj
  unfold yielded
  cases ho : ops[j]? with
  | none => simp [ho] at hj
  | some p =>
    simp [ho] at hj
    simp only [Option.bind_some, hj]
    have : a.tmps[t]? = some (.bool b) := by
      unfold Array.getD at hv
      split at hv
      · rename_i hlt; rw [Array.getElem?_eq_getElem hlt]; exact congrArg some hv
      · cases hv
    rw [this]
theorem yielded_void (h : Inv w0 T N S g w a) {j : Nat} {t : Tmp} (hj : dstOf ops.toList j = some t) (ht : S.tmp t = .cell .void) : yielded ops a.tmps j = none := by
  have hv := h.tmps t
  rw [ht] at hv
  have hv : a.tmps.getD t undef = undef := hv
  unfold dstOf at hj
  unfold yielded
  cases ho : ops[j]? with
  | none => simp
  | some p =>
    simp [ho] at hj
    simp only [Option.bind_some, hj]
    cases hq : a.tmps[t]? with
    | none => rfl
    | some v =>
      have : v = undef := by
        have hlt := (Array.getElem?_eq_some_iff.1 hq).1
        have he := (Array.getElem?_eq_some_iff.1 hq).2
        rw [← he]; simpa [Array.getD, hlt] using hv
      rw [this]; rfl
theorem step_wp (h : Inv w0 T N S g w a) (hG : Good P G) {i : Nat} {r : Res} (hs : Step G rid ops.toList S i o r) (hi : ops.toList[i]? = some o) (hd : ∀ d, o.dst = some d → d < a.tmps.size) {K : Act → World → Prop}
    (hK : ∀ v w' g', Inv w0 T N (S.act o r) g' w' (a.put o.dst v) → Le (dom S.en) g w (dom (S.act o r).en) g' w' → K (a.put o.dst v) w') : wpOp P ops Q i K a w := by
  have hi' : ops[i]? = some o := by simpa using hi
  unfold wpOp
  simp only [hi']
  cases r with
  | none =>
    obtain ⟨j, want, t, hg, hj, ht⟩ := hs
    have hw : Region.wanted o (yielded ops a.tmps) = false := by
      simp only [Region.wanted, hg]
      rcases ht with ht | ht
      · rw [yielded_bool h hj ht]; cases want <;> rfl
      · rw [yielded_void h hj ht]; rfl
    rw [hw]
    simp only [Bool.false_eq_true, if_false]
    exact hK undef w g (h.put (e := ⟨.cell .void, []⟩) h.ms (Le.refl _ _ _) rfl hd) (Le.refl _ _ _)
  | some r =>
    obtain ⟨e, L⟩ := r
    obtain ⟨hwn, hr⟩ := hs
    have hw : Region.wanted o (yielded ops a.tmps) = true := by
      unfold Region.wanted
      cases hg : o.guard with
      | none => rfl
      | some q =>
        obtain ⟨j, want⟩ := q
        obtain ⟨t, hj, ht⟩ := hwn j want hg
        simp only [yielded_bool h hj ht]; cases want <;> rfl
    rw [hw]
    simp only [if_true]
    exact .inl (effOp_wp h hG hr hd hK)
end Go.V
namespace Go.V
set_option linter.unusedVariables false
set_option linter.unusedSimpArgs false
variable {P : Program} {w0 : World} {T N : Nat → Prop} {S S' : St} {g : Gh} {w w' : World} {a : Act} {G : Env} {rid : Nat} {Q : Exit → Act → World → Prop} {ops : Array Oper} {B : List Nat}

theorem numbered_mem : ∀ {l : List Oper} {i : Nat} {p : Nat × Oper}, p ∈ numbered i l → i ≤ p.1 ∧ l[p.1 - i]? = some p.2
  | [], i, p, h => by simp [numbered] at h
  | o :: l, i, p, h => by
    rw [numbered] at h
    rcases List.mem_cons.1 h with rfl | h
    · exact ⟨Nat.le_refl _, by simp⟩
    · obtain ⟨h1, h2⟩ := numbered_mem h
      refine ⟨by omega, ?_⟩
      rw [show p.1 - i = (p.1 - (i + 1)) + 1 by omega]; simpa using h2
theorem numbered_fst : ∀ (l : List Oper) (i : Nat), (numbered i l).map (·.1) = List.range' i l.length
  | [], i => rfl
  | o :: l, i => by rw [numbered, List.map_cons, numbered_fst l (i + 1)]; rfl
theorem numbered_asc : ∀ (l : List Oper) (i : Nat), (numbered i l).Pairwise fun p q => p.1 < q.1
  | [], i => List.Pairwise.nil
  | o :: l, i => by
    rw [numbered]
    exact List.pairwise_cons.2 ⟨fun q hq => by have := (numbered_mem hq).1; show i < q.1; omega, numbered_asc l (i + 1)⟩
theorem apartOps_spec : ∀ {l : List (Nat × Oper)}, apartOps ops B l = true → l.Pairwise fun p q => hasBit (bitsOf B q.1) p.1 = true ∨ Oper.apart ops p.2 q.2 = true
  | [], h => List.Pairwise.nil
  | (i, x) :: l, h => by
    simp only [apartOps, Bool.and_eq_true] at h
    refine List.pairwise_cons.2 ⟨fun q hq => ?_, apartOps_spec h.2⟩
    simpa using List.all_eq_true.1 h.1 q hq
def At (w0 : World) (T N : Nat → Prop) (nt : Nat) (D0 : Name → Prop) (g0 : Gh) (w1 : World) (S : St) (a : Act) (w : World) : Prop :=
  ∃ g, Inv w0 T N S g w a ∧ nt ≤ a.tmps.size ∧ Le D0 g0 w1 (dom S.en) g w
theorem Inv.same (h : Inv w0 T N S g w a) (hs : Same S S') : Inv w0 T N S' g w a := by
  have hM := h.ms.congr hs.en
  refine ⟨hM.mem, hM.since, fun t => ?_, h.plain⟩
  rw [← hs.tm t, ← dom_congr hs.en]; exact h.tmps t
theorem put_size (a : Act) (d : Option Tmp) (v : Value) : (a.put d v).tmps.size = a.tmps.size := by
  unfold Act.put; cases d <;> simp
theorem At.sound (hG : Good P G) {nt : Nat} (hb : ∀ (i : Nat) o, ops.toList[i]? = some o → ∀ d, o.dst = some d → d < nt) {D0 : Name → Prop} {g0 : Gh} {w1 : World} : Sound P G rid ops Q (At w0 T N nt D0 g0 w1) := by
  refine ⟨fun S S' a w hs ⟨g, h1, h2, h3⟩ => ⟨g, h1.same hs, h2, by rw [← dom_congr hs.en]; exact h3⟩, fun S i o r a w K hst hi ⟨g, h1, h2, h3⟩ hK => ?_⟩
  exact step_wp h1 hG hst hi (fun d hd => Nat.lt_of_lt_of_le (hb i o hi d hd) h2) fun v w' g' hI hle => hK _ _ ⟨g', hI, by rw [put_size]; exact h2, h3.trans hle⟩
theorem Step.closed {i : Nat} {o : Oper} {r : Res} {l : List Oper} (h : Closed S) (hs : Step G rid l S i o r) : Closed (S.act o r) := by
  cases r with
  | none => exact h.put _ (EffIn.pure (x := .cell .void) (data_in rfl))
  | some r => exact h.put _ (effOp_in (fun x => h.eval x) h.box hs.2)
theorem Closed.same (h : Closed S) (hs : Same S S') : Closed S' := by
  have hd := dom_congr hs.en
  refine ⟨fun t => by rw [← hs.tm t, ← hd]; exact h.tmp t, fun n cs hn c hc => ?_⟩
  rw [← hd]; exact h.box n cs ((hs.en n).trans hn) c hc
theorem Tr.closed {l : List Oper} : ∀ {E : List Ev} {S S' : St}, Closed S → Tr G rid l E S S' → Closed S'
  | [], S, S', h, k => h.same k
  | (i, o, r) :: E, S, S', h, ⟨k1, k2⟩ => Tr.closed (k1.closed h) k2
theorem Tr.dom {l : List Oper} : ∀ {E : List Ev} {S S' : St}, Tr G rid l E S S' → ∀ n, dom S.en n → dom S'.en n
  | [], S, S', k, n, hn => by rw [← dom_congr (show Same S S' from k).en]; exact hn
  | (i, o, r) :: E, S, S', ⟨k1, k2⟩, n, hn => by
    refine Tr.dom k2 n ?_
    cases r with
    | none => exact hn
    | some r => exact dom_more _ _ n hn
theorem dstOf_looks {l : List Oper} {o : Oper} {t : Tmp} (h : t ∉ o.looksAt l.toArray) : ¬ Looks l o t := fun k => h (looks_at k)
theorem At.drop {nt : Nat} {D0 : Name → Prop} {g0 : Gh} {w1 : World} {Z : List Tmp} {FN : List Name} {S1 : St} (h : At w0 T N nt D0 g0 w1 S1 a w) (hs : Sub Z FN S S1) (hc : Closed S) (hd : ∀ n, D0 n → Go.V.dom S.en n) : At w0 T N nt D0 g0 w1 S a w := by
  obtain ⟨g, h1, h2, h3⟩ := h
  exact ⟨g, h1.drop hs hc, h2, ⟨hd, h3.loc, h3.esz, h3.imm, h3.mem, h3.rows⟩⟩

structure Ext (S S' : St) : Prop where
  en : ∃ nw, S'.en = nw ++ S.en
  tm : ∃ nt, S'.tm = nt ++ S.tm
theorem region_wp {A : Type} (hG : Good P G) (hm : P.follows .mixedOrders = true) {nt : Nat} {draw : Bool} (hb : below nt (.region rid ops draw) = true) (h : Inv w0 T N S g w a) (hn : nt ≤ a.tmps.size) (hc : Closed S) {ann : List (Nat × LoopAnn)} {K : Conts A} {r : A}
    (hr : exec G ann (.region rid ops draw) S K = some r)
    (hQ : ∀ S' a' w', Closed S' → Ext S S' → At w0 T N nt (dom S.en) g w S' a' w' → K.n S' = some r → Q .normal a' w') : (Code.region rid ops draw).wp P Q a w := by
  have hbel : ∀ (i : Nat) o, ops.toList[i]? = some o → ∀ d, o.dst = some d → d < nt := by
    intro i o ho d hd
    have := List.all_eq_true.1 hb o (List.mem_of_getElem? ho)
    rw [hd] at this
    exact Nat.lt_of_lt_of_le (Nat.lt_succ_self d) (Nat.le_of_ble_eq_true this)
  have hs := At.sound (rid := rid) (w0 := w0) (T := T) (N := N) (Q := Q) (D0 := dom S.en) (g0 := g) (w1 := w) hG hbel
  have hhere : ∀ {E : List Ev}, E.map (fun p => (p.1, p.2.1)) = numbered 0 ops.toList → ∀ p ∈ E, ops.toList[p.1]? = some p.2.1 := by
    intro E hE p hp
    have := numbered_mem (map_dst hE hp)
    simpa using this.2
  have hfst : ∀ {E : List Ev}, E.map (fun p => (p.1, p.2.1)) = numbered 0 ops.toList → E.map (·.1) = List.range ops.size := by
    intro E hE
    rw [show E.map (·.1) = (E.map (fun p => (p.1, p.2.1))).map (·.1) by rw [List.map_map]; rfl, hE, numbered_fst, ← List.range_eq_range']; rfl
  rw [exec] at hr
  cases hcase : (draw || ops.toList.any guarded) with
  | false =>
    rw [hcase] at hr
    simp only [cond_false] at hr
    simp only [Bool.or_eq_false_iff] at hcase
    obtain ⟨E, S', h1, h2, h3, h4, h5⟩ := runs_plain hr
    rw [hcase.1]
    refine wp_region ?_
    rw [← hfst h2]
    exact plain_order hs h1 (hhere h2) ⟨g, h, hn, Le.refl _ _ _⟩ fun a' w' hR => hQ S' a' w' (Tr.closed hc h1) ⟨h4, h5⟩ hR h3
  | true =>
    rw [hcase] at hr
    simp only [cond_true] at hr
    cases hck : (Nat.blt ops.toList.length 256 && (bitsLt 0 (cond draw (befs ops.toList []) (fulls ops.toList.length)) && cond draw (drawOk ops (befs ops.toList [])) true)) with
    | false => rw [hck] at hr; cases hr
    | true =>
      rw [hck] at hr
      simp only [Bool.and_eq_true, cond_true] at hck hr
      obtain ⟨c1, c2, c3⟩ := hck
      have hB : Bits ops.toList (cond draw (befs ops.toList []) (fulls ops.toList.length)) := Bits.of (Nat.lt_of_lt_of_le (Nat.lt_succ_self _) (Nat.le_of_ble_eq_true c1)) c2
      have hin : Inp rid ops.toList (cond draw (befs ops.toList []) (fulls ops.toList.length)) [] (numbered 0 ops.toList) S S [] [] [] [] :=
        ⟨⟨fun t => .inl rfl, fun n _ => rfl, fun n hn => by simp at hn⟩, fun t c ht => by simp [find] at ht, fun p hp => by simp at hp, fun n hn => by simp at hn,
          fun p hp => by simpa using (numbered_mem hp).2, fun p hp t ht => by simp at ht, fun p hp => by simp at hp, numbered_asc _ _, hc⟩
      obtain ⟨E, S1', S', acc', Z', FN', nw, k1, k2, k3, ⟨k4, k4'⟩, k5, k6, k7, k8, k9, k10, k11, k12⟩ := (runs_out hB _ _ _ _ _ _ _ _ _ _ _ _ hr hin).out
      have hend : ∀ a' w', At w0 T N nt (dom S.en) g w S1' a' w' → Q .normal a' w' := fun a' w' hR =>
        hQ S' a' w' k4' ⟨⟨nw, k11.1⟩, k11.2⟩ (hR.drop k4 k4' fun n hn => by rw [k11.1]; exact dom_more _ _ n hn) k1
      cases draw with
      | false =>
        refine wp_region ?_
        rw [← hfst k3]
        exact plain_order hs k2 (hhere k3) ⟨g, h, hn, Le.refl _ _ _⟩ hend
      | true =>
        simp only [cond_true] at c3 hB k8
        simp only [drawOk, Bool.and_eq_true] at c3
        obtain ⟨⟨d1, d2⟩, d3⟩ := c3
        refine wp_region_any hm ?_
        obtain ⟨hM, hle⟩ := h.ms.drew
        have hI : Inv w0 T N S g w.drew a := ⟨hM.mem, hM.since, fun t => AVRep.mono hle (h.tmps t), h.plain⟩
        have hlen : E.length = ops.size := by
          have := congrArg List.length (hfst k3)
          simpa using this
        refine any_order hs (B := befs ops.toList []) ⟨fun i o ho b hb' => ?_, fun i o ho e he heb => ?_⟩ hlen k2 ⟨by simp, hhere k3, fun i hi => ?_, ?_, ?_, fun i hi hl => ?_⟩ ⟨g, hI, hn, hle⟩ hend
        · exact befs_spec ops.toList [] i o ho b (by simpa using hb')
        · have hmem : (i, o) ∈ numbered 0 ops.toList := by
            have hi : i ∈ (numbered 0 ops.toList).map (·.1) := by
              rw [numbered_fst, ← List.range_eq_range']
              exact List.mem_range.2 (List.getElem?_eq_some_iff.1 ho).1
            obtain ⟨p, hp, rfl⟩ := List.mem_map.1 hi
            have := (numbered_mem hp).2
            rw [Nat.sub_zero, ho] at this
            cases this; exact hp
          have := List.all_eq_true.1 (List.all_eq_true.1 d2 _ hmem) e he
          rw [heb] at this
          simp only [Bool.not_true, Bool.false_or] at this
          exact Nat.lt_of_lt_of_le (Nat.lt_succ_self _) (Nat.le_of_ble_eq_true this)
        · have : (Array.replicate ops.size false).getD i true = false := by simp [Array.getD, hi]
          refine ⟨fun _ => ?_, fun _ => this⟩
          have hi' : i ∈ E.map (·.1) := by rw [hfst k3]; exact List.mem_range.2 hi
          obtain ⟨p, hp, he⟩ := List.mem_map.1 hi'
          exact ⟨p, hp, he⟩
        · have := numbered_asc ops.toList 0
          rw [← k3, List.pairwise_map] at this
          exact this
        · have hap := apartOps_spec d3
          rw [← k3, List.pairwise_map] at hap
          refine (hap.and k8).imp fun {p q} ⟨h1, h2⟩ => ?_
          rcases h1 with h1 | h1
          · exact .inl h1
          · rcases h2 with h2 | h2
            · exact .inl h2
            · obtain ⟨e1, e2, e3⟩ := Oper.apart_spec h1
              have harr : ops.toList.toArray = ops := by simp
              exact .inr ⟨fun d hd => dstOf_looks (by rw [harr]; exact e1 d hd), fun d hd => dstOf_looks (by rw [harr]; exact e3 d hd), e2, h2.wr, h2.rw, h2.ww⟩
        · simp [Array.getD, hi] at hl
end Go.V
namespace Go.V
set_option linter.unusedVariables false
set_option linter.unusedSimpArgs false

theorem Rd.plain_some {α : Type} {S : Name → Option Entry} {a : α} : ∀ {x : Rd α}, x.plain S = some a → ∃ L, x.Runs S a L
  | .ret b, h => by simp only [Rd.plain, Option.some.injEq] at h; exact ⟨[], h.symm, rfl⟩
  | .fail, h => by simp [Rd.plain] at h
  | .get n k, h => by
    simp only [Rd.plain] at h
    obtain ⟨L, hL⟩ := Rd.plain_some h
    exact ⟨n :: L, L, rfl, hL⟩
  | .opt _ _, h => by simp [Rd.plain] at h
def Gives1 (S : St) (σ : List (Name × Cell)) : SCell → Cell → Cell → Prop
  | .dat c, x, y => ∃ a, c.quiet S.ent x = some a ∧ y = c.cell a
  | .own n, x, y => y = .own n ∧ (n, x) ∈ σ ∧ ((∃ r, x = .own r) ∨ (∃ r lo hi, x = .win r lo hi) ∨ x = .nil)
  | .same n, x, y => x = .own n ∧ y = x
  | .box n o, x, y => x = .box n o ∧ y = x
  | .nil, x, y => x = .nil ∧ y = x
  | .undef, _, y => y = .undef
  | .fn f cs, x, y => x = .fn f cs ∧ y = x
  | .kid r j e, x, y => ∃ xs, x = .kid r j e xs ∧ y = x
def Gives (S : St) (σ : List (Name × Cell)) : List SCell → List Cell → List Cell → Prop
  | [], [], [] => True
  | s :: l, x :: xs, y :: ys => Gives1 S σ s x y ∧ Gives S σ l xs ys
  | _, _, _ => False
variable {S : St} {σ : List (Name × Cell)}
theorem none_some {α : Type} {z : α} {A : Prop} (h : (none : Option α) = some z) : A := by cases h
theorem readCells_dat {c : CT} {l : List SCell} {R : List Cs} {x : Cell} {xs : List Cell} {y : Option (Tup R)} : readCells S (.dat c :: l) R (x :: xs) y =
    (match c.quiet S.ent x, readCells S l R xs y with | some a, some b => some (Tup.mk (.one c) (cellsCs l R) a b) | _, _ => none) := rfl
theorem readKid_spec {r : Name} {j : Nat} {e : Cs} {x : Cell} {a : List e.den} (h : readKid r j e x = some a) : x = .kid r j e a := by
  unfold readKid at h
  split at h
  · rename_i s k f xs
    cases hk : (Nat.beq r s && Nat.beq j k) with
    | false => rw [hk] at h; cases h
    | true =>
      rw [hk] at h
      simp only [Bool.and_eq_true] at hk
      obtain rfl := Nat.eq_of_beq_eq_true hk.1
      obtain rfl := Nat.eq_of_beq_eq_true hk.2
      simp only [cond_true] at h
      split at h
      · rename_i hh _; subst hh; cases h; rfl
      · cases h
  · cases h
theorem readCells_kid {r : Name} {j : Nat} {e : Cs} {l : List SCell} {R : List Cs} {x : Cell} {xs : List Cell} {y : Option (Tup R)} : readCells S (.kid r j e :: l) R (x :: xs) y =
    (match readKid r j e x, readCells S l R xs y with | some a, some b => some (Tup.mk (.one (.sl e)) (cellsCs l R) a b) | _, _ => none) := rfl
theorem readCells_gives : ∀ (l : List SCell) (R : List Cs) (xs : List Cell) (y : Option (Tup R)) (z : Tup (cellsCs l R)), readCells S l R xs y = some z → (∀ p ∈ collect l xs, p ∈ σ) →
    ∃ y', y = some y' ∧ Gives S σ l xs (giveCells l R z).1 ∧ (giveCells l R z).2 = y' := by
  intro l
  induction l with
  | nil =>
    intro R xs y z h _
    cases xs with
    | nil => exact ⟨z, h, trivial, rfl⟩
    | cons _ _ => exact none_some (show (none : Option (Tup (cellsCs [] R))) = some z from h)
  | cons s l ih =>
    intro R xs y z h hσ
    cases xs with
    | nil => cases s <;> exact none_some (show (none : Option (Tup (cellsCs _ R))) = some z from h)
    | cons x xs =>
      cases s with
      | dat c =>
        rw [readCells_dat] at h
        cases h1 : c.quiet S.ent x with
        | none => rw [h1] at h; cases h
        | some a =>
          cases h2 : readCells S l R xs y with
          | none => rw [h1, h2] at h; cases h
          | some b =>
            rw [h1, h2] at h
            have h : Tup.mk (.one c) (cellsCs l R) a b = z := Option.some.inj h
            subst h
            obtain ⟨y', e1, e2, e3⟩ := ih R xs y b h2 (fun p hp => hσ p hp)
            refine ⟨y', e1, ?_, ?_⟩
            · show Gives1 S σ (.dat c) x (c.cell (Tup.hd (.one c) (cellsCs l R) _)) ∧ Gives S σ l xs (giveCells l R (Tup.tl (.one c) (cellsCs l R) _)).1
              rw [Tup.tl_mk, Tup.hd_mk]; exact ⟨⟨a, h1, rfl⟩, e2⟩
            · show (giveCells l R (Tup.tl (.one c) (cellsCs l R) _)).2 = y'
              rw [Tup.tl_mk]; exact e3
      | kid r j c =>
        rw [readCells_kid] at h
        cases h1 : readKid r j c x with
        | none => rw [h1] at h; cases h
        | some a =>
          cases h2 : readCells S l R xs y with
          | none => rw [h1, h2] at h; cases h
          | some b =>
            rw [h1, h2] at h
            have h : Tup.mk (.one (.sl c)) (cellsCs l R) a b = z := Option.some.inj h
            subst h
            obtain ⟨y', e1, e2, e3⟩ := ih R xs y b h2 (fun p hp => hσ p hp)
            refine ⟨y', e1, ?_, ?_⟩
            · show Gives1 S σ (.kid r j c) x (.kid r j c (Tup.hd (.one (.sl c)) (cellsCs l R) _)) ∧ Gives S σ l xs (giveCells l R (Tup.tl (.one (.sl c)) (cellsCs l R) _)).1
              rw [Tup.tl_mk, Tup.hd_mk]; exact ⟨⟨a, readKid_spec h1, (readKid_spec h1).symm⟩, e2⟩
            · show (giveCells l R (Tup.tl (.one (.sl c)) (cellsCs l R) _)).2 = y'
              rw [Tup.tl_mk]; exact e3
      | own n =>
        have key : ∀ (hx : (∃ r, x = .own r) ∨ (∃ r lo hi, x = .win r lo hi) ∨ x = .nil) (h : readCells S l R xs y = some z), ∃ y', y = some y' ∧ Gives S σ (.own n :: l) (x :: xs) (giveCells (.own n :: l) R z).1 ∧ (giveCells (.own n :: l) R z).2 = y' := by
          intro hx h
          obtain ⟨y', e1, e2, e3⟩ := ih R xs y z h (fun p hp => hσ p (List.mem_cons_of_mem _ hp))
          exact ⟨y', e1, ⟨⟨rfl, hσ _ List.mem_cons_self, hx⟩, e2⟩, e3⟩
        cases x <;> first
          | exact none_some (show (none : Option (Tup (cellsCs _ R))) = some z from h)
          | exact key (.inl ⟨_, rfl⟩) h
          | exact key (.inr (.inl ⟨_, _, _, rfl⟩)) h
          | exact key (.inr (.inr rfl)) h
      | same n =>
        cases x <;> try exact none_some (show (none : Option (Tup (cellsCs _ R))) = some z from h)
        rename_i m
        have h' : cond (Nat.beq n m) (readCells S l R xs y) none = some z := h
        cases hnm : Nat.beq n m with
        | false => rw [hnm] at h'; cases h'
        | true =>
          rw [hnm] at h'
          clear h
          obtain rfl := Nat.eq_of_beq_eq_true hnm
          obtain ⟨y', e1, e2, e3⟩ := ih R xs y z h' (fun p hp => hσ p hp)
          exact ⟨y', e1, ⟨⟨rfl, rfl⟩, e2⟩, e3⟩
      | box n o =>
        cases x <;> try exact none_some (show (none : Option (Tup (cellsCs _ R))) = some z from h)
        rename_i m p
        have h' : cond (Nat.beq n m && Nat.beq o p) (readCells S l R xs y) none = some z := h
        cases hnm : (Nat.beq n m && Nat.beq o p) with
        | false => rw [hnm] at h'; cases h'
        | true =>
          rw [hnm] at h'
          clear h
          simp only [Bool.and_eq_true] at hnm
          obtain rfl := Nat.eq_of_beq_eq_true hnm.1
          obtain rfl := Nat.eq_of_beq_eq_true hnm.2
          obtain ⟨y', e1, e2, e3⟩ := ih R xs y z h' (fun p hp => hσ p hp)
          exact ⟨y', e1, ⟨⟨rfl, rfl⟩, e2⟩, e3⟩
      | nil =>
        cases x <;> try exact none_some (show (none : Option (Tup (cellsCs _ R))) = some z from h)
        obtain ⟨y', e1, e2, e3⟩ := ih R xs y z h (fun p hp => hσ p hp)
        exact ⟨y', e1, ⟨⟨rfl, rfl⟩, e2⟩, e3⟩
      | undef =>
        obtain ⟨y', e1, e2, e3⟩ := ih R xs y z h (fun p hp => hσ p hp)
        exact ⟨y', e1, ⟨rfl, e2⟩, e3⟩
      | fn f cs =>
        cases x <;> try exact none_some (show (none : Option (Tup (cellsCs _ R))) = some z from h)
        rename_i g ds
        have h' : cond (Nat.beq f g && (cs == ds)) (readCells S l R xs y) none = some z := h
        cases hnm : (Nat.beq f g && (cs == ds)) with
        | false => rw [hnm] at h'; cases h'
        | true =>
          rw [hnm] at h'
          clear h
          simp only [Bool.and_eq_true] at hnm
          obtain rfl := Nat.eq_of_beq_eq_true hnm.1
          obtain rfl := eq_of_beq hnm.2
          obtain ⟨y', e1, e2, e3⟩ := ih R xs y z h' (fun p hp => hσ p hp)
          exact ⟨y', e1, ⟨⟨rfl, rfl⟩, e2⟩, e3⟩
def TmGives (S : St) (σ : List (Name × Cell)) (l : List (Nat × Bool × List SCell)) (tm : List (Nat × AV)) (t : Nat) : Prop :=
  match find l t with
  | none => find tm t = none
  | some (agg, ss) => okAgg agg (S.tmp t) = true ∧ ∃ cs, find tm t = some (avOf agg cs) ∧ Gives S σ ss (S.tmp t).cells cs
theorem readTms_gives : ∀ {l : List (Nat × Bool × List SCell)} {R : List Cs} {y : Option (Tup R)} {z : Tup (tmsCs l R)}, readTms S l R y = some z → (∀ p ∈ collectTms S l, p ∈ σ) →
    ∃ y', y = some y' ∧ (∀ t, TmGives S σ l (giveTms l R z).1 t) ∧ (giveTms l R z).2 = y'
  | [], R, y, z, h, _ => ⟨z, h, fun t => rfl, rfl⟩
  | (t, agg, ss) :: l, R, y, z, h, hσ => by
    have h' : cond (okAgg agg (S.tmp t)) (readCells S ss (tmsCs l R) (S.tmp t).cells (readTms S l R y)) none = some z := h
    cases hag : okAgg agg (S.tmp t) with
    | false => rw [hag] at h'; cases h'
    | true =>
      rw [hag] at h'
      clear h
      have h : readCells S ss (tmsCs l R) (S.tmp t).cells (readTms S l R y) = some z := h'
      obtain ⟨y1, e1, e2, e3⟩ := readCells_gives _ _ _ _ _ h (fun p hp => hσ p (List.mem_append_left _ hp))
      obtain ⟨y2, k1, k2, k3⟩ := readTms_gives e1 (fun p hp => hσ p (List.mem_append_right _ hp))
      refine ⟨y2, k1, fun u => ?_, ?_⟩
      · unfold TmGives
        simp only [giveTms]
        rw [find_cons, find_cons]
        by_cases htu : t = u
        · subst htu
          simp only [if_true]
          exact ⟨hag, _, rfl, e2⟩
        · simp only [if_neg htu]
          have := k2 u
          unfold TmGives at this
          rw [e3]; exact this
      · simp only [giveTms]; rw [e3]; exact k3
def EnGives (S : St) (σ : List (Name × Cell)) (l : List (Name × SEnt)) (en : List (Name × Entry)) (n : Name) : Prop :=
  match find l n with
  | none => find en n = none
  | some (.root e m) => ∃ x xs, find σ n = some x ∧ readRoot S e m x = some xs ∧ find en n = some (.root e m xs)
  | some (.keep e m) => ∃ xs, readRoot S e m (.own n) = some xs ∧ find en n = some (.root e m xs)
  | some (.box ss) => ∃ cs cs', find S.en n = some (.box cs) ∧ find en n = some (.box cs') ∧ Gives S σ ss cs cs'
  | some (.tree e) => ∃ xs, find S.en n = some (.tree e xs) ∧ find en n = some (.tree e xs)
theorem readTree_spec {e : Cs} {n : Name} {xs : List e.den} (h : readTree S e n = some xs) : find S.en n = some (.tree e xs) := by
  unfold readTree at h
  split at h
  · rename_i f ys hn
    split at h
    · rename_i hh _
      subst hh
      cases h
      exact hn
    · cases h
  · cases h
theorem readEnts_gives : ∀ {l : List (Name × SEnt)} {z : Tup (entsCs l)}, readEnts S σ l = some z → (∀ p ∈ collectEnts S l, p ∈ σ) → ∀ n, EnGives S σ l (giveEnts l z) n
  | [], z, h, _, n => rfl
  | (m, .root e d) :: l, z, h, hσ, n => by
    simp only [readEnts] at h
    split at h
    · rename_i x hx
      split at h
      · rename_i a b h1 h2
        cases h
        have ih := readEnts_gives h2 hσ n
        unfold EnGives at ih ⊢
        simp only [giveEnts]
        rw [find_cons, find_cons, Tup.tl_mk, Tup.hd_mk]
        by_cases hmn : m = n
        · subst hmn
          simp only [if_true]
          exact ⟨x, a, hx, h1, rfl⟩
        · simp only [if_neg hmn]; exact ih
      · cases h
    · cases h
  | (m, .keep e d) :: l, z, h, hσ, n => by
    simp only [readEnts] at h
    split at h
    · rename_i a b h1 h2
      cases h
      have ih := readEnts_gives h2 hσ n
      unfold EnGives at ih ⊢
      simp only [giveEnts]
      rw [find_cons, find_cons, Tup.tl_mk, Tup.hd_mk]
      by_cases hmn : m = n
      · subst hmn
        simp only [if_true]
        exact ⟨a, h1, rfl⟩
      · simp only [if_neg hmn]; exact ih
    · cases h
  | (m, .tree e) :: l, z, h, hσ, n => by
    simp only [readEnts] at h
    split at h
    · rename_i a b h1 h2
      cases h
      have ih := readEnts_gives h2 hσ n
      unfold EnGives at ih ⊢
      simp only [giveEnts]
      rw [find_cons, find_cons, Tup.tl_mk, Tup.hd_mk]
      by_cases hmn : m = n
      · subst hmn
        simp only [if_true]
        exact ⟨a, readTree_spec h1, rfl⟩
      · simp only [if_neg hmn]; exact ih
    · cases h
  | (m, .box ss) :: l, z, h, hσ, n => by
    simp only [readEnts] at h
    cases hcs : S.ent m with
    | none => rw [hcs] at h; cases h
    | some ec =>
    rw [hcs] at h
    cases ec with
    | tree => cases h
    | frz => cases h
    | gone => cases h
    | fwd _ _ => cases h
    | root _ _ _ => cases h
    | box cs =>
      simp only at h
      obtain ⟨y', e1, e2, e3⟩ := readCells_gives _ _ _ _ _ h (fun p hp => hσ p (by
        simp only [collectEnts]; rw [hcs]; exact List.mem_append_left _ hp))
      have ih := readEnts_gives e1 (fun p hp => hσ p (List.mem_append_right _ hp)) n
      unfold EnGives at ih ⊢
      simp only [giveEnts]
      rw [find_cons, find_cons, e3]
      by_cases hmn : m = n
      · subst hmn
        simp only [if_true]
        exact ⟨cs, _, hcs, rfl, e2⟩
      · simp only [if_neg hmn]; exact ih
theorem okSigma_spec : ∀ {l : List (Name × Cell)}, okSigma l = true → l.Pairwise fun p q => (q.1 = p.1 → sameOwn p.2 q.2 = true) ∧ (q.1 ≠ p.1 → apartCells p.2 q.2 = true)
  | [], _ => List.Pairwise.nil
  | (n, x) :: l, h => by
    simp only [okSigma, Bool.and_eq_true] at h
    refine List.pairwise_cons.2 ⟨fun q hq => ?_, okSigma_spec h.2⟩
    have := List.all_eq_true.1 h.1 q hq
    cases hb : Nat.beq q.1 n with
    | true =>
      rw [hb] at this
      exact ⟨fun _ => this, fun hne => absurd (Nat.eq_of_beq_eq_true hb) hne⟩
    | false =>
      rw [hb] at this
      exact ⟨fun he => by subst he; simp at hb, fun _ => this⟩
theorem sameOwn_eq {x y : Cell} (h : sameOwn x y = true) : ∃ r, x = .own r ∧ y = .own r := by
  cases x <;> cases y <;> simp [sameOwn] at h
  exact ⟨_, rfl, by rw [h]⟩
theorem sigma_find : ∀ {l : List (Name × Cell)}, okSigma l = true → ∀ {n : Name} {x : Cell}, (n, x) ∈ l → ∃ y, find l n = some y ∧ (x = y ∨ ∃ r, x = .own r ∧ y = .own r)
  | [], _, n, x, h => by simp at h
  | (m, y) :: l, hs, n, x, h => by
    rw [find_cons]
    by_cases hmn : m = n
    · subst hmn
      rw [if_pos rfl]
      rcases List.mem_cons.1 h with h | h
      · cases h; exact ⟨_, rfl, .inl rfl⟩
      · obtain ⟨r, e1, e2⟩ := sameOwn_eq (((List.pairwise_cons.1 (okSigma_spec hs)).1 (m, x) h).1 rfl)
        exact ⟨y, rfl, .inr ⟨r, e2, e1⟩⟩
    · rw [if_neg hmn]
      rcases List.mem_cons.1 h with h | h
      · cases h; exact absurd rfl hmn
      · simp only [okSigma, Bool.and_eq_true] at hs
        exact sigma_find hs.2 h
theorem apartCells_spec {x y : Cell} (h : apartCells x y = true) {r : Name} (hx : rootOf x = some r) : rootOf y ≠ some r := by
  intro hy
  simp [apartCells, hx, hy] at h
theorem apartCells_symm {x y : Cell} (h : apartCells x y = true) : apartCells y x = true := by
  have e : ∀ a b, apartCells a b = (match rootOf a, rootOf b with | some r, some s => !(Nat.beq r s) | _, _ => true) := fun a b => rfl
  rw [e] at h ⊢
  cases hx : rootOf x with
  | none => cases rootOf y <;> rfl
  | some r => cases hy : rootOf y with
    | none => rfl
    | some s =>
      rw [hx, hy] at h
      simp only [Bool.not_eq_true'] at h ⊢
      cases hb : Nat.beq s r with
      | false => rfl
      | true => rw [Nat.eq_of_beq_eq_true hb] at h; simp at h
theorem sigma_apart : ∀ {l : List (Name × Cell)}, okSigma l = true → ∀ {n m : Name} {x y : Cell}, (n, x) ∈ l → (m, y) ∈ l → n ≠ m → ∀ r, rootOf x = some r → rootOf y ≠ some r
  | [], _, n, m, x, y, h, _, _, r, _ => by simp at h
  | (k, z) :: l, hs, n, m, x, y, h1, h2, hnm, r, hr => by
    have hp := List.pairwise_cons.1 (okSigma_spec hs)
    simp only [okSigma, Bool.and_eq_true] at hs
    rcases List.mem_cons.1 h1 with e1 | h1 <;> rcases List.mem_cons.1 h2 with e2 | h2
    · cases e1; cases e2; exact absurd rfl hnm
    · cases e1; exact apartCells_spec ((hp.1 (m, y) h2).2 (Ne.symm hnm)) hr
    · cases e2; exact apartCells_spec (apartCells_symm ((hp.1 (n, x) h1).2 hnm)) hr
    · exact sigma_apart hs.2 h1 h2 hnm r hr
end Go.V
namespace Go.V
set_option linter.unusedVariables false
set_option linter.unusedSimpArgs false
variable {w0 : World} {T N : Nat → Prop} {en en' : List (Name × Entry)} {S S' : St} {g g' : Gh} {w : World} {a : Act} {s : Shape} {M : List (Name × Entry)} {W : List (Nat × AV)}

theorem MS.rename (h : MS w0 T N en g w) (hI : g'.I = g.I) (hrep : ∀ n e, find en' n = some e → EntRep (dom en') g' w n e) (Link : Name → Name → Prop)
    (hφ : ∀ n e, find en' n = some e → e.alive = true ∨ e.deep = true → (g'.top n = none ∧ g'.nest n = []) ∨ ∃ k f, find en k = some f ∧ (e.alive = true → f.alive = true) ∧ (e.deep = true → f.deep = true) ∧ g'.top n = g.top k ∧ (∀ b ∈ g'.nest n, b ∈ g.nest k) ∧ Link n k)
    (htree : ∀ n e, find en' n = some e → e.isTree = true → (∃ f, find en n = some f ∧ f.isTree = true) ∧ g'.nest n = g.nest n) (inj : ∀ n m k, Link n k → Link m k → n = m) (hone : ∀ n, dom en' n → (g'.loc n).oneCell' = true) : MS w0 T N en' g' w := by
  have ht : ∀ n e b, find en' n = some e → e.alive = true → g'.top n = some b → ∃ k f, find en k = some f ∧ f.alive = true ∧ g.top k = some b ∧ Link n k := by
    intro n e b hn ha hb
    rcases hφ n e hn (.inl ha) with ⟨h1, _⟩ | ⟨k, f, h1, h2, _, h4, _, h6⟩
    · rw [h1] at hb; cases hb
    · exact ⟨k, f, h1, h2 ha, h4 ▸ hb, h6⟩
  have hs : ∀ n e b, find en' n = some e → e.deep = true → b ∈ g'.nest n → ∃ k f, find en k = some f ∧ f.deep = true ∧ b ∈ g.nest k ∧ Link n k := by
    intro n e b hn hd hb
    rcases hφ n e hn (.inr hd) with ⟨_, h1⟩ | ⟨k, f, h1, h2, h3, _, h5, h6⟩
    · rw [h1] at hb; simp at hb
    · exact ⟨k, f, h1, h3 hd, h5 b hb, h6⟩
  refine ⟨⟨hrep, fun n m e f b hn hm he hf h1 h2 => ?_, fun n e b hn he hb => ?_, fun n m e f hn hm he hf hnm b hb hb' => ?_, fun b hb => h.mem.old b (hI ▸ hb), hone, fun n e b hn he hb => ?_⟩,
    ⟨h.since.os, h.since.out, h.since.tape, h.since.size, h.since.mem, fun n e b hn he hb => ?_, fun n e b hn he hb => ?_, fun b hb => h.since.imm b (hI ▸ hb), fun n e b hn he hb => ?_, h.since.soft⟩⟩
  · obtain ⟨k, f1, k1, k2, k3, k4⟩ := ht n e b hn he h1
    obtain ⟨k', f2, l1, l2, l3, l4⟩ := ht m f b hm hf h2
    obtain rfl := h.mem.apart k k' f1 f2 b k1 l1 k2 l2 k3 l3
    exact inj n m k k4 l4
  · obtain ⟨k, f1, k1, k2, k3, k4⟩ := ht n e b hn he hb
    rw [hI]; exact h.mem.topI k f1 b k1 k2 k3
  · obtain ⟨k, f1, k1, k2, k3, k4⟩ := hs n e b hn he hb
    obtain ⟨k', f2, l1, l2, l3, l4⟩ := hs m f b hm hf hb'
    by_cases hkk : k = k'
    · subst hkk; exact hnm (inj n m k k4 l4)
    · exact h.mem.nests k k' f1 f2 k1 l1 k2 l2 hkk b k3 l3
  · obtain ⟨⟨f, k1, k2⟩, k3⟩ := htree n e hn he
    rw [k3] at hb
    obtain ⟨l1, l2, l3⟩ := h.mem.wood n f b k1 k2 hb
    refine ⟨by rw [hI]; exact l1, fun m f' hm hf' hb' => ?_, fun m f' hmn hm hf' => ?_⟩
    · obtain ⟨k, f1, j1, j2, j3, _⟩ := ht m f' b hm hf' hb'
      exact l2 k f1 j1 j2 j3
    · obtain ⟨⟨f2, j1, j2⟩, j3⟩ := htree m f' hm hf'
      rw [j3]; exact l3 m f2 hmn j1 j2
  · obtain ⟨k, f1, k1, k2, k3, k4⟩ := ht n e b hn he hb
    exact h.since.tops k f1 b k1 k2 k3
  · obtain ⟨k, f1, k1, k2, k3, k4⟩ := hs n e b hn he hb
    exact h.since.nests k f1 b k1 k2 k3
  · obtain ⟨⟨f, k1, k2⟩, k3⟩ := htree n e hn he
    rw [k3] at hb
    exact h.since.born n f b k1 k2 hb

theorem readRoot_runs {e : Cs} {m : Bool} {x : Cell} {xs : List e.den} (h : readRoot S e m x = some xs) :
    ∃ q us L, (dstL e x).Runs (find S.en) (xs, q, us) L ∧ (∀ m', q = some m' → m = true → m' = true) ∧ (∀ r E, us = [(r, E)] → rootOf x = some r) := by
  cases x <;> try (exfalso; cases h; done)
  case nil =>
    simp only [readRoot, Option.some.injEq] at h
    subst h
    exact ⟨none, [], [], ⟨rfl, rfl⟩, (fun m' h => by cases h), fun r E h => by cases h⟩
  case own r =>
    simp only [readRoot] at h
    split at h
    · rename_i f m' ys hr
      cases hm : okM m m' with
      | false => rw [hm] at h; cases h
      | true =>
        rw [hm] at h
        simp only [cond_true] at h
        split at h
        · rename_i hfe hsame
          cases h
          refine ⟨some m', [(r, .gone)], [r], ⟨[], rfl, ?_⟩, (fun m'' h hm1 => ?_), fun r' E h => by cases h; rfl⟩
          · rw [show find S.en r = some (.root f m' ys) from hr]
            simp only [hsame]
            exact ⟨rfl, rfl⟩
          · cases h; subst hm1; simpa [okM] using hm
        · cases h
    · cases h
  case win r lo hi =>
    simp only [readRoot] at h
    split at h
    · rename_i f m' ys hr
      cases hm : okM m m' with
      | false => rw [hm] at h; cases h
      | true =>
        rw [hm] at h
        simp only [cond_true] at h
        split at h
        · rename_i hfe hsame
          cases h
          refine ⟨some m', [(r, .gone)], [r], ⟨[], rfl, ?_⟩, (fun m'' h hm1 => ?_), fun r' E h => by cases h; rfl⟩
          · rw [show find S.en r = some (.root f m' ys) from hr]
            simp only [hsame]
            exact ⟨rfl, rfl⟩
          · cases h; subst hm1; simpa [okM] using hm
        · cases h
    · cases h
structure RootInfo (w : World) (S : St) (g : Gh) (e : Cs) (m : Bool) (x : Cell) (xs : List e.den) (i : NI) : Prop where
  esz : i.esz = e.len
  loc : ∀ v, CellRep (dom S.en) g w x v → v = i.loc
  rep : rootRep w e xs i.loc i.top i.nest
  imm : ∀ b ∈ i.nest, g.I b
  nod : m = true → i.nest.Nodup
  one : i.loc.oneCell' = true
  old : (i.top = none ∧ i.nest = []) ∨ ∃ r m' ys, rootOf x = some r ∧ find S.en r = some (.root e m' ys) ∧ i.top = g.top r ∧ (∀ b ∈ i.nest, b ∈ g.nest r) ∧ (m = true → m' = true)
theorem rootRep_one {e : Cs} {xs : List e.den} {v : Value} {tp : Option Nat} {F : List Nat} (h : rootRep w e xs v tp F) : v.oneCell' = true := by
  obtain ⟨x, c, rfl⟩ := h.shape; rfl
theorem rootInfo (hm : Mem S.en g w) {e : Cs} {m : Bool} {x : Cell} {xs : List e.den} (h : readRoot S e m x = some xs) {v : Value} (hv : CellRep (dom S.en) g w x v) : ∃ i, RootInfo w S g e m x xs i := by
  have huni : ∀ u, CellRep (dom S.en) g w x u → u = v := by
    intro u hu
    cases x <;> try (exfalso; cases h; done)
    case nil => exact (show u = _ from hu).trans (show v = _ from hv).symm
    case own r => exact hu.2.trans hv.2.symm
    case win r lo hi =>
      obtain ⟨_, _, a1, l1, c1, e1, _, rfl⟩ := hu
      obtain ⟨_, _, a2, l2, c2, e2, _, rfl⟩ := hv
      rw [e1] at e2; cases e2; rfl
  obtain ⟨q, us, L, h1, h2, h3⟩ := readRoot_runs h
  rcases dst_sound hm hv h1 with ⟨rfl, h4⟩ | ⟨ys, r, m', F, h4, hD⟩
  · cases h4
    exact ⟨⟨.slice none 0 0, e.len, none, []⟩, rfl, huni, .inl ⟨rfl, rfl, rfl, rfl⟩, by simp, by simp, rfl, .inl ⟨rfl, rfl⟩⟩
  · cases h4
    obtain ⟨⟨zs, hent⟩, hrep, hcnt⟩ := hD
    obtain ⟨_, _, hI, hnd⟩ := root_of hm hent
    have hsub : ∀ b ∈ F, b ∈ g.nest r := fun b hb => by
      have h0 := hcnt b
      have h1 : 0 < F.count b := List.count_pos_iff.2 hb
      exact List.count_pos_iff.1 (by omega)
    refine ⟨⟨v, e.len, g.top r, F⟩, rfl, huni, hrep, fun b hb => hI b (hsub b hb), fun hm1 => ?_, rootRep_one hrep, .inr ⟨r, m', zs, h3 r _ rfl, hent, rfl, hsub, h2 m' rfl⟩⟩
    rw [← once_iff]
    intro b
    have := hcnt b
    have h6 := once_iff.2 (hnd (h2 m' rfl hm1)) b
    show F.count b ≤ 1
    omega
end Go.V
namespace Go.V
set_option linter.unusedVariables false
set_option linter.unusedSimpArgs false
variable {w0 : World} {T N : Nat → Prop} {en en' : List (Name × Entry)} {S S' : St} {g g' : Gh} {w : World} {a : Act} {s : Shape} {M : List (Name × Entry)} {W : List (Nat × AV)}

theorem nodupE_find : ∀ {l : List (Name × SEnt)}, nodupE l = true → ∀ {n : Name} {e : SEnt}, (n, e) ∈ l → find l n = some e
  | [], _, n, e, h => by simp at h
  | (m, f) :: l, hl, n, e, h => by
    simp only [nodupE, Bool.and_eq_true] at hl
    rw [find_cons]
    rcases List.mem_cons.1 h with h | h
    · cases h; rw [if_pos rfl]
    · by_cases hmn : m = n
      · subst hmn
        have := List.all_eq_true.1 hl.1 _ h
        simp at this
      · rw [if_neg hmn]; exact nodupE_find hl.2 h
theorem isRoot_find {l : List (Name × SEnt)} (hl : nodupE l = true) {n : Name} (h : isRoot l n = true) : ∃ e m, find l n = some (.root e m) := by
  obtain ⟨p, hp, hq⟩ := List.any_eq_true.1 h
  simp only [Bool.and_eq_true] at hq
  obtain ⟨k, f⟩ := p
  obtain rfl := Nat.eq_of_beq_eq_true hq.1
  cases f with
  | root e m => exact ⟨e, m, nodupE_find hl hp⟩
  | keep e m => cases hq.2
  | box ss => cases hq.2
  | tree e => cases hq.2
theorem keptBox_find {l : List (Name × SEnt)} (hl : nodupE l = true) {n : Name} (h : keptBox l n = true) : ∃ x, find l n = some x ∧ ∀ e m, x ≠ .root e m := by
  obtain ⟨p, hp, hq⟩ := List.any_eq_true.1 h
  simp only [Bool.and_eq_true] at hq
  obtain ⟨k, f⟩ := p
  obtain rfl := Nat.eq_of_beq_eq_true hq.1
  refine ⟨f, nodupE_find hl hp, fun e m he => ?_⟩
  subst he; cases hq.2
theorem find_kept : ∀ {l : List (Name × SEnt)} {n : Name} {x : SEnt}, find l n = some x → (∀ e m, x ≠ .root e m) → keptBox l n = true := by
  intro l n x h hx
  refine List.any_eq_true.2 ⟨(n, x), find_mem_pair h, ?_⟩
  cases x with
  | root e m => exact absurd rfl (hx e m)
  | keep e m => simp
  | tree e => simp
  | box ss => simp
theorem freshRoots_spec : ∀ {l : List (Name × SEnt)}, freshRoots S l = true → ∀ {n : Name} {e : Cs} {m : Bool}, (n, SEnt.root e m) ∈ l → find S.en n = none
  | [], _, n, e, m, h => by simp at h
  | (k, x) :: l, hf, n, e, m, h => by
    rcases List.mem_cons.1 h with h' | h'
    · obtain ⟨rfl, rfl⟩ := Prod.mk.inj h'
      simp only [freshRoots, Bool.and_eq_true] at hf
      cases hn : find S.en n with
      | none => rfl
      | some y => rw [show S.ent n = some y from hn] at hf; cases hf.1
    · cases x with
      | root e' m' => simp only [freshRoots, Bool.and_eq_true] at hf; exact freshRoots_spec hf.2 h'
      | keep e' m' => simp only [freshRoots] at hf; exact freshRoots_spec hf h'
      | box ss => simp only [freshRoots] at hf; exact freshRoots_spec hf h'
      | tree e' => simp only [freshRoots] at hf; exact freshRoots_spec hf h'
theorem collect_rep {D : Name → Prop} : ∀ {l : List SCell} {xs : List Cell} {vs : List Value}, All2 (CellRep D g w) xs vs → ∀ p ∈ collect l xs, ∃ v, CellRep D g w p.2 v
  | [], xs, vs, _, p, hp => by cases xs <;> simp [collect] at hp
  | s :: l, [], [], _, p, hp => by cases s <;> simp [collect] at hp
  | s :: l, x :: xs, v :: vs, h, p, hp => by
    have ih := collect_rep (l := l) h.2 p
    cases s with
    | own n =>
      rcases List.mem_cons.1 hp with rfl | hp
      · exact ⟨v, h.1⟩
      · exact ih hp
    | _ => exact ih hp
theorem av_cells_rep {D : Name → Prop} {x : AV} {v : Value} (h : AVRep D g w x v) : ∃ vs, All2 (CellRep D g w) x.cells vs := by
  cases x with
  | cell c => exact ⟨[v], h, trivial⟩
  | agg cs => obtain ⟨vs, _, k⟩ := h; exact ⟨_, k⟩
  | tup l => exact ⟨[], trivial⟩
theorem sigma_rep (hI : Inv w0 T N S' g w a) : ∀ p ∈ s.sigma S', ∃ v, CellRep (dom S'.en) g w p.2 v := by
  intro p hp
  rcases List.mem_append.1 hp with hp | hp
  · have key : ∀ (l : List (Nat × Bool × List SCell)), p ∈ collectTms S' l → ∃ v, CellRep (dom S'.en) g w p.2 v := by
      intro l
      induction l with
      | nil => intro h; simp [collectTms] at h
      | cons q l ih =>
        intro h
        obtain ⟨t, ag, ss⟩ := q
        rcases List.mem_append.1 h with h | h
        · obtain ⟨vs, hv⟩ := av_cells_rep (hI.tmps t)
          exact collect_rep hv p h
        · exact ih h
    exact key _ hp
  · have key : ∀ (l : List (Name × SEnt)), p ∈ collectEnts S' l → ∃ v, CellRep (dom S'.en) g w p.2 v := by
      intro l
      induction l with
      | nil => intro h; simp [collectEnts] at h
      | cons q l ih =>
        intro h
        obtain ⟨n, x⟩ := q
        cases x with
        | box ss =>
          rcases List.mem_append.1 h with h | h
          · cases hn : S'.ent n with
            | none => rw [hn] at h; simp at h
            | some e =>
              rw [hn] at h
              cases e with
              | box cs =>
                obtain ⟨b, us, _, _, _, h4⟩ := hI.mem.rep n _ hn
                exact collect_rep h4 p h
              | gone => simp at h
              | fwd _ _ => simp at h
              | root _ _ _ => simp at h
              | tree _ _ => simp at h
              | frz _ _ => simp at h
          · exact ih h
        | root e m => exact ih h
        | keep e m => exact ih h
        | tree e => exact ih h
    exact key _ hp
structure Takes (S S' : St) (M : List (Name × Entry)) (W : List (Nat × AV)) (s : Shape) : Prop where
  gone : ∀ n e, find M n = some e → e = .gone
  undef : ∀ t v, find W t = some v → v = .undef
  dom : ∀ n, dom S.en n → Go.V.dom S'.en n
  en : ∀ n, find M n = none → Go.V.dom S.en n → find S'.en n = find S.en n
  tm : ∀ t, find W t = none → S'.tmp t = S.tmp t
  kept : ∀ n, keptBox s.en n = true → find M n ≠ none
  ok : s.okAt S = true
  freed : freed S M (s.sigma S') = true
def InfoOk (S' : St) (g : Gh) (w : World) (s : Shape) (n : Name) (i : NI) : Prop :=
  match find s.en n with
  | some (.root e m) => ∃ x xs, find (s.sigma S') n = some x ∧ readRoot S' e m x = some xs ∧ RootInfo w S' g e m x xs i
  | _ => (dom S'.en n → i.loc = g.loc n ∧ i.esz = g.esz n ∧ i.top = g.top n ∧ i.nest = g.nest n) ∧ (¬ dom S'.en n → i.loc = .slice none 0 0)
theorem Shape.read_spec {d : s.den} (h : s.read S' = some d) : okSigma (s.sigma S' ++ keptOf s.en) = true ∧ (∀ t, TmGives S' (s.sigma S') s.tm (s.st d).tm t) ∧ (∀ n, EnGives S' (s.sigma S') s.en (s.st d).en n) := by
  unfold Shape.read at h
  cases hs : okSigma (s.sigma S' ++ keptOf s.en) with
  | false => rw [hs] at h; cases h
  | true =>
    rw [hs] at h
    have h : readTms S' s.tm (entsCs s.en) (readEnts S' (s.sigma S') s.en) = some d := h
    obtain ⟨y', e1, e2, e3⟩ := readTms_gives h (σ := s.sigma S') (fun p hp => List.mem_append_left _ hp)
    refine ⟨rfl, e2, ?_⟩
    have := readEnts_gives e1 (fun p hp => List.mem_append_right _ hp)
    show ∀ n, EnGives S' (s.sigma S') s.en (giveEnts s.en (giveTms s.tm (entsCs s.en) d).2) n
    rw [e3]; exact this
theorem okSigma_left : ∀ {l m : List (Name × Cell)}, okSigma (l ++ m) = true → okSigma l = true
  | [], m, _ => rfl
  | (n, x) :: l, m, h => by
    simp only [List.cons_append, okSigma, Bool.and_eq_true, List.all_append] at h ⊢
    exact ⟨h.1.1, okSigma_left h.2⟩
theorem mem_keptOf : ∀ {l : List (Name × SEnt)} {n : Name} {e : Cs} {m : Bool}, (n, SEnt.keep e m) ∈ l → (n, Cell.own n) ∈ keptOf l
  | [], n, e, m, h => by simp at h
  | (k, x) :: l, n, e, m, h => by
    rcases List.mem_cons.1 h with h' | h'
    · obtain ⟨rfl, rfl⟩ := Prod.mk.inj h'; exact List.mem_cons_self
    · cases x with
      | keep e' m' => exact List.mem_cons_of_mem _ (mem_keptOf h')
      | root e' m' => exact mem_keptOf (l := l) h'
      | box ss => exact mem_keptOf (l := l) h'
      | tree e' => exact mem_keptOf (l := l) h'
theorem infos (hI : Inv w0 T N S' g w a) {d : s.den} (hr : s.read S' = some d) : ∃ f : Name → NI, ∀ n, InfoOk S' g w s n (f n) := by
  apply Classical.skolem.1
  intro n
  obtain ⟨hσ, _, hen⟩ := Shape.read_spec hr
  have hn := hen n
  unfold EnGives at hn
  unfold InfoOk
  cases hf : find s.en n with
  | none =>
    by_cases hd : dom S'.en n
    · exact ⟨⟨g.loc n, g.esz n, g.top n, g.nest n⟩, fun _ => ⟨rfl, rfl, rfl, rfl⟩, fun h => absurd hd h⟩
    · exact ⟨⟨.slice none 0 0, 0, none, []⟩, fun h => absurd h hd, fun _ => rfl⟩
  | some x =>
    cases x with
    | root e m =>
      rw [hf] at hn
      obtain ⟨x, xs, h1, h2, _⟩ := hn
      obtain ⟨v, hv⟩ := sigma_rep (s := s) hI (n, x) (find_mem_pair h1)
      obtain ⟨i, hi⟩ := rootInfo hI.mem h2 hv
      exact ⟨i, x, xs, h1, h2, hi⟩
    | keep e m =>
      by_cases hd : dom S'.en n
      · exact ⟨⟨g.loc n, g.esz n, g.top n, g.nest n⟩, fun _ => ⟨rfl, rfl, rfl, rfl⟩, fun h => absurd hd h⟩
      · exact ⟨⟨.slice none 0 0, 0, none, []⟩, fun h => absurd h hd, fun _ => rfl⟩
    | box ss =>
      by_cases hd : dom S'.en n
      · exact ⟨⟨g.loc n, g.esz n, g.top n, g.nest n⟩, fun _ => ⟨rfl, rfl, rfl, rfl⟩, fun h => absurd hd h⟩
      · exact ⟨⟨.slice none 0 0, 0, none, []⟩, fun h => absurd h hd, fun _ => rfl⟩
    | tree e =>
      by_cases hd : dom S'.en n
      · exact ⟨⟨g.loc n, g.esz n, g.top n, g.nest n⟩, fun _ => ⟨rfl, rfl, rfl, rfl⟩, fun h => absurd hd h⟩
      · exact ⟨⟨.slice none 0 0, 0, none, []⟩, fun h => absurd h hd, fun _ => rfl⟩
def Gh.all (g : Gh) (f : Name → NI) : Gh := ⟨g.I, fun n => (f n).loc, fun n => (f n).esz, fun n => (f n).top, fun n => (f n).nest, g.rows⟩
end Go.V
namespace Go.V
set_option linter.unusedVariables false
set_option linter.unusedSimpArgs false
variable {w0 : World} {T N : Nat → Prop} {en en' : List (Name × Entry)} {S S' : St} {g g' : Gh} {w : World} {a : Act} {s : Shape} {M : List (Name × Entry)} {W : List (Nat × AV)}

theorem readRoot_own {e : Cs} {m : Bool} {n : Name} {xs : List e.den} (h : readRoot S e m (.own n) = some xs) : ∃ m', find S.en n = some (.root e m' xs) ∧ (m = true → m' = true) := by
  simp only [readRoot] at h
  split at h
  · rename_i f m' ys hr
    cases hm : okM m m' with
    | false => rw [hm] at h; cases h
    | true =>
      rw [hm] at h
      simp only [cond_true] at h
      split at h
      · rename_i hfe _
        cases h
        subst hfe
        exact ⟨m', hr, fun hm1 => by subst hm1; simpa [okM] using hm⟩
      · cases h
  · cases h
theorem gives_imp {σ : List (Name × Cell)} {D D' : Name → Prop} {ok : SCell → Bool} (h1 : ∀ c x y v, Gives1 S σ c x y → ok c = true → CellRep D g w x v → CellRep D' g' w y v) :
    ∀ {ss : List SCell} {xs ys : List Cell} {vs : List Value}, Gives S σ ss xs ys → ss.all ok = true → All2 (CellRep D g w) xs vs → All2 (CellRep D' g' w) ys vs
  | [], [], [], [], _, _, _ => trivial
  | c :: ss, x :: xs, y :: ys, v :: vs, h, ho, hv => by
    simp only [List.all_cons, Bool.and_eq_true] at ho
    exact ⟨h1 c x y v h.1 ho.1 hv.1, gives_imp h1 h.2 ho.2 hv.2⟩
theorem gives_in {σ : List (Name × Cell)} {D' : Name → Prop} {ok : SCell → Bool} (h1 : ∀ c x y, Gives1 S σ c x y → ok c = true → CIn D' y) :
    ∀ {ss : List SCell} {xs ys : List Cell}, Gives S σ ss xs ys → ss.all ok = true → ∀ y ∈ ys, CIn D' y
  | [], [], [], _, _, y, hy => by simp at hy
  | c :: ss, x :: xs, z :: ys, h, ho, y, hy => by
    simp only [List.all_cons, Bool.and_eq_true] at ho
    rcases List.mem_cons.1 hy with rfl | hy
    · exact h1 c x y h.1 ho.1
    · exact gives_in h1 h.2 ho.2 y hy
theorem gives_length {σ : List (Name × Cell)} : ∀ {ss : List SCell} {xs ys : List Cell}, Gives S σ ss xs ys → ys.length = xs.length
  | [], [], [], _ => rfl
  | c :: ss, x :: xs, z :: ys, h => by simp [gives_length h.2]
def Link (S S' : St) (M : List (Name × Entry)) (s : Shape) (n k : Name) : Prop :=
  (∃ e m x e' m' ys, find s.en n = some (.root e m) ∧ find (s.sigma S') n = some x ∧ rootOf x = some k ∧ find S'.en k = some (.root e' m' ys)) ∨
  (n = k ∧ ∃ e m, find s.en n = some (.keep e m)) ∨
  (n = k ∧ ∃ ss cs, find s.en n = some (.box ss) ∧ find S'.en n = some (.box cs)) ∨
  (n = k ∧ find s.en n = none ∧ find M n = none ∧ dom S.en n)
theorem Link.inj (hσ : okSigma (s.sigma S' ++ keptOf s.en) = true) (hfr : freed S M (s.sigma S') = true) {n m k : Name} (h : Link S S' M s n k) (h' : Link S S' M s m k) : n = m := by
  have hroot : ∀ {n m k : Name}, (∃ e m x e' m' ys, find s.en n = some (.root e m) ∧ find (s.sigma S') n = some x ∧ rootOf x = some k ∧ find S'.en k = some (.root e' m' ys)) → Link S S' M s m k → n = m := by
    intro n m k ⟨e, d, x, e', d', ys, h1, h2, h3, h4⟩ h'
    have hx := find_mem_pair h2
    rcases h' with ⟨_, _, y, _, _, _, k1, k2, k3, k4⟩ | ⟨rfl, e2, m2, k1⟩ | ⟨rfl, ss, cs, k1, k2⟩ | ⟨rfl, k1, k2, k3⟩
    · by_cases hnm : n = m
      · exact hnm
      · exact absurd k3 (sigma_apart (okSigma_left hσ) hx (find_mem_pair k2) hnm k h3)
    · by_cases hnm : n = m
      · exact hnm
      · exact absurd rfl (sigma_apart hσ (List.mem_append_left _ hx) (List.mem_append_right _ (mem_keptOf (find_mem_pair k1))) hnm m h3)
    · rw [h4] at k2; cases k2
    · have := List.all_eq_true.1 hfr _ hx
      simp only [h3] at this
      cases hd : find S.en m with
      | none => exact absurd hd k3
      | some y =>
        rw [hd] at this
        simp only at this
        rw [k2] at this; cases this
  rcases h with h | h
  · exact hroot h h'
  · rcases h' with h' | h'
    · exact (hroot h' (.inr h)).symm
    · have e1 : n = k := by rcases h with ⟨e, _⟩ | ⟨e, _⟩ | ⟨e, _⟩ <;> exact e
      have e2 : m = k := by rcases h' with ⟨e, _⟩ | ⟨e, _⟩ | ⟨e, _⟩ <;> exact e
      exact e1.trans e2.symm
theorem over_inv (hI : Inv w0 T N S' g w a) (hcS : Closed S) (hT : Takes S S' M W s) {d : s.den} (hr : s.read S' = some d) :
    ∃ g', Inv w0 T N (s.over ⟨W ++ S.tm, M ++ S.en⟩ d) g' w a ∧ Le (dom S.en) g w (dom (s.over ⟨W ++ S.tm, M ++ S.en⟩ d).en) g' w ∧ Closed (s.over ⟨W ++ S.tm, M ++ S.en⟩ d) := by
  obtain ⟨hσ, htm, hen⟩ := Shape.read_spec hr
  obtain ⟨f, hf⟩ := infos hI hr
  have hok := hT.ok
  simp only [Shape.okAt, Bool.and_eq_true] at hok
  obtain ⟨hfr, hnd, hokt, hoke⟩ := hok
  have hEd : (s.over ⟨W ++ S.tm, M ++ S.en⟩ d).en = (s.st d).en ++ (M ++ S.en) := rfl
  have hTd : (s.over ⟨W ++ S.tm, M ++ S.en⟩ d).tm = (s.st d).tm ++ (W ++ S.tm) := rfl
  generalize hE : (s.over ⟨W ++ S.tm, M ++ S.en⟩ d).en = E at hEd
  have hnr : ∀ n, dom S.en n → ∀ e m, find s.en n ≠ some (.root e m) := fun n hn e m h => hn (freshRoots_spec hfr (find_mem_pair h))
  have hold : ∀ n, dom S'.en n → (∀ e m, find s.en n ≠ some (.root e m)) → (f n).loc = g.loc n ∧ (f n).esz = g.esz n ∧ (f n).top = g.top n ∧ (f n).nest = g.nest n := by
    intro n hn hne
    have := hf n
    unfold InfoOk at this
    split at this
    · rename_i e m h; exact absurd h (hne e m)
    · exact this.1 hn
  have hdomS : ∀ n, dom S.en n → dom E n := fun n hn => by
    rw [hEd]; exact dom_more _ _ n (dom_more _ _ n hn)
  have hdome : ∀ n x, find s.en n = some x → dom E n := by
    intro n x hx
    have := hen n
    unfold EnGives at this
    rw [hx] at this
    rw [hEd]
    cases x with
    | root e m => obtain ⟨_, _, _, _, h⟩ := this; exact dom_left (by unfold dom; rw [h]; simp)
    | keep e m => obtain ⟨_, _, h⟩ := this; exact dom_left (by unfold dom; rw [h]; simp)
    | box ss => obtain ⟨_, _, _, h, _⟩ := this; exact dom_left (by unfold dom; rw [h]; simp)
    | tree e => obtain ⟨_, _, h⟩ := this; exact dom_left (by unfold dom; rw [h]; simp)
  have hle : Le (dom S.en) g w (dom E) (g.all f) w := ⟨hdomS, fun n hn => (hold n (hT.dom n hn) (hnr n hn)).1, fun n hn => (hold n (hT.dom n hn) (hnr n hn)).2.1, fun _ h => h, fun _ _ => rfl, fun _ _ => rfl⟩
  -- names that cells of the shape may name
  have hdm : ∀ n, ((find S.en n).isSome || keptBox s.en n) = true → dom S'.en n → dom E n ∧ (f n).loc = g.loc n ∧ (f n).esz = g.esz n := by
    intro n h hd
    rw [Bool.or_eq_true] at h
    rcases h with h | h
    · have hS : dom S.en n := by intro h0; rw [h0] at h; cases h
      exact ⟨hdomS n hS, (hold n hd (hnr n hS)).1, (hold n hd (hnr n hS)).2.1⟩
    · obtain ⟨x, hx, hxr⟩ := keptBox_find hnd h
      have hne : ∀ e m, find s.en n ≠ some (.root e m) := fun e m h => by rw [hx] at h; exact hxr e m (Option.some.inj h)
      exact ⟨hdome n x hx, (hold n hd hne).1, (hold n hd hne).2.1⟩
  have hdmE : ∀ n, ((find S.en n).isSome || keptBox s.en n) = true → dom E n := by
    intro n h
    rw [Bool.or_eq_true] at h
    rcases h with h | h
    · exact hdomS n (by intro h0; rw [h0] at h; cases h)
    · obtain ⟨x, hx, _⟩ := keptBox_find hnd h; exact hdome n x hx
  let ok := SCell.okIn (fun n => (find S.en n).isSome || keptBox s.en n) (isRoot s.en)
  have g1 : ∀ c x y v, Gives1 S' (s.sigma S') c x y → ok c = true → CellRep (dom S'.en) g w x v → CellRep (dom E) (g.all f) w y v := by
    intro c x y v h ho hv
    cases c with
    | dat c =>
      obtain ⟨b, hq, rfl⟩ := h
      unfold CT.quiet at hq
      split at hq
      · rename_i b' hb
        cases hq
        obtain ⟨L, hL⟩ := Rd.plain_some hb
        obtain ⟨⟨F, hF, hFI⟩, _⟩ := CT.into_shared hI.mem hv hL
        refine CT.cell_rep hF fun q hq => (hFI q hq).elim id fun ⟨k, hk, _⟩ => ?_
        simp at hk
      · cases hq
    | own n =>
      obtain ⟨rfl, hm, _⟩ := h
      obtain ⟨e, m, hx⟩ := isRoot_find hnd ho
      have := hf n
      unfold InfoOk at this
      rw [hx] at this
      obtain ⟨x0, xs, h1, h2, h3⟩ := this
      obtain ⟨z, hz, hz'⟩ := sigma_find (okSigma_left hσ) hm
      rw [h1] at hz; cases hz
      have : x = x0 := by rcases hz' with h | ⟨r, h, h'⟩
                          · exact h
                          · exact h.trans h'.symm
      subst this
      exact ⟨hdome n _ hx, h3.loc v hv⟩
    | same n =>
      obtain ⟨rfl, rfl⟩ := h
      obtain ⟨hd, rfl⟩ := hv
      obtain ⟨h1, h2, _⟩ := hdm n ho hd
      exact ⟨h1, h2.symm⟩
    | box n o =>
      obtain ⟨rfl, rfl⟩ := h
      obtain ⟨hd, b, hb, e⟩ := hv
      obtain ⟨h1, h2, _⟩ := hdm n ho hd
      exact ⟨h1, b, h2.trans hb, e⟩
    | nil => obtain ⟨rfl, rfl⟩ := h; exact hv
    | kid r j e =>
      obtain ⟨xs, rfl, rfl⟩ := h
      obtain ⟨hsh, hd, b, o, len, cap, i, k1, k2, k3, k4⟩ := hv
      obtain ⟨h1, h2, h3⟩ := hdm r ho hd
      exact ⟨hsh, h1, b, o, len, cap, i, h2.trans k1, k2, k3, by rw [show (g.all f).esz r = g.esz r from h3]; exact k4⟩
    | undef => obtain rfl := h; trivial
    | fn q cs =>
      obtain ⟨rfl, rfl⟩ := h
      obtain ⟨vs, e, k⟩ := hv
      refine ⟨vs, e, ?_⟩
      have key : ∀ (l : List Name) (m : List Value), (∀ n ∈ l, ((find S.en n).isSome || keptBox s.en n) = true) → All2 (fun n u => dom S'.en n ∧ (∃ b, g.loc n = .pointer (some ⟨b, 0, none⟩)) ∧ u = g.loc n) l m →
          All2 (fun n u => dom E n ∧ (∃ b, (g.all f).loc n = .pointer (some ⟨b, 0, none⟩)) ∧ u = (g.all f).loc n) l m := by
        intro l
        induction l with
        | nil => intro m _ h; cases m with
          | nil => trivial
          | cons _ _ => exact h.elim
        | cons n l ih => intro m hl h; cases m with
          | nil => exact h.elim
          | cons u m =>
            obtain ⟨hd, ⟨b, hb⟩, hu⟩ := h.1
            obtain ⟨h1, h2, _⟩ := hdm n (hl n (by simp)) hd
            exact ⟨⟨h1, ⟨b, h2.trans hb⟩, hu.trans h2.symm⟩, ih m (fun k hk => hl k (by simp [hk])) h.2⟩
      exact key cs _ (fun n hn => List.all_eq_true.1 ho n hn) k
  have g2 : ∀ c x y, Gives1 S' (s.sigma S') c x y → ok c = true → CIn (dom E) y := by
    intro c x y h ho
    cases c with
    | dat c => obtain ⟨b, _, rfl⟩ := h; exact CT.cell_in c b
    | own n =>
      obtain ⟨rfl, _, _⟩ := h
      obtain ⟨e, m, hx⟩ := isRoot_find hnd ho
      intro k hk; simp [Cell.refs] at hk; subst hk; exact hdome k _ hx
    | same n => obtain ⟨rfl, rfl⟩ := h; intro k hk; simp [Cell.refs] at hk; subst hk; exact hdmE k ho
    | box n o => obtain ⟨rfl, rfl⟩ := h; intro k hk; simp [Cell.refs] at hk; subst hk; exact hdmE k ho
    | nil => obtain ⟨rfl, rfl⟩ := h; exact data_in rfl
    | kid r j e => obtain ⟨xs, rfl, rfl⟩ := h; intro k hk; simp [Cell.refs] at hk; subst hk; exact hdmE k ho
    | undef => obtain rfl := h; exact data_in rfl
    | fn q cs => obtain ⟨rfl, rfl⟩ := h; intro k hk; exact hdmE k (List.all_eq_true.1 ho k hk)
  have hokbox : ∀ n ss, find s.en n = some (.box ss) → ss.all ok = true := fun n ss h => by
    have := List.all_eq_true.1 hoke _ (find_mem_pair h); exact this
  -- what a name of the new state is
  have hlook : ∀ n e, find E n = some e →
      (∃ c m x xs, find s.en n = some (.root c m) ∧ e = .root c m xs ∧ find (s.sigma S') n = some x ∧ readRoot S' c m x = some xs ∧ RootInfo w S' g c m x xs (f n)) ∨
      (∃ c m m' xs, find s.en n = some (.keep c m) ∧ e = .root c m xs ∧ find S'.en n = some (.root c m' xs) ∧ (m = true → m' = true)) ∨
      (∃ ss cs cs', find s.en n = some (.box ss) ∧ e = .box cs' ∧ find S'.en n = some (.box cs) ∧ Gives S' (s.sigma S') ss cs cs') ∨
      (find s.en n = none ∧ ((find M n ≠ none ∧ e = .gone) ∨ (find M n = none ∧ find S.en n = some e ∧ find S'.en n = some e))) ∨
      (∃ c xs, find s.en n = some (.tree c) ∧ e = .tree c xs ∧ find S'.en n = some (.tree c xs)) := by
    intro n e he
    rw [hEd, find_append] at he
    have h0 := hen n
    unfold EnGives at h0
    cases hs : find s.en n with
    | none =>
      rw [hs] at h0
      simp only at h0
      rw [h0] at he
      refine .inr (.inr (.inr (.inl ⟨rfl, ?_⟩)))
      rw [find_append] at he
      cases hM : find M n with
      | some y => rw [hM] at he; cases he; exact .inl ⟨(fun h => by cases h), hT.gone n e hM⟩
      | none =>
        rw [hM] at he
        have he : find S.en n = some e := he
        exact .inr ⟨rfl, he, (hT.en n hM (by unfold dom; rw [he]; simp)).trans he⟩
    | some x =>
      rw [hs] at h0
      cases x with
      | root c m =>
        obtain ⟨x, xs, h1, h2, h3⟩ := h0
        rw [h3] at he; cases he
        have := hf n
        unfold InfoOk at this
        rw [hs] at this
        obtain ⟨x', xs', k1, k2, k3⟩ := this
        rw [h1] at k1; cases k1
        rw [h2] at k2; cases k2
        exact .inl ⟨c, m, x, xs, rfl, rfl, h1, h2, k3⟩
      | keep c m =>
        obtain ⟨xs, h2, h3⟩ := h0
        rw [h3] at he; cases he
        obtain ⟨m', k1, k2⟩ := readRoot_own h2
        exact .inr (.inl ⟨c, m, m', xs, rfl, rfl, k1, k2⟩)
      | box ss =>
        obtain ⟨cs, cs', h1, h2, h3⟩ := h0
        rw [h2] at he; cases he
        exact .inr (.inr (.inl ⟨ss, cs, cs', rfl, rfl, h1, h3⟩))
      | tree c =>
        obtain ⟨xs, h1, h2⟩ := h0
        rw [h2] at he; cases he
        exact .inr (.inr (.inr (.inr ⟨c, xs, rfl, rfl, h1⟩)))
  have hbox_old : ∀ n cs, find S.en n = some (.box cs) → ∀ c ∈ cs, CIn (dom S.en) c := hcS.box
  have hMS : MS w0 T N E (g.all f) w := by
    refine MS.rename (en := S'.en) hI.ms rfl (fun n e he => ?_) (Link S S' M s) (fun n e he ha => ?_) (fun n e he ht => ?_) (fun n m k h h' => Link.inj hσ hT.freed h h') (fun n hn => ?_)
    · rcases hlook n e he with ⟨c, m, x, xs, h1, rfl, h2, h3, h4⟩ | ⟨c, m, m', xs, h1, rfl, h2, h3⟩ | ⟨ss, cs, cs', h1, rfl, h2, h3⟩ | ⟨h1, h2⟩ | ⟨c, xs, h1, rfl, h2⟩
      · exact ⟨h4.esz, h4.rep, h4.imm, h4.nod⟩
      · obtain ⟨k1, k2, k3, k4⟩ := root_of hI.mem h2
        obtain ⟨e1, e2, e3, e4⟩ := hold n (by unfold dom; rw [h2]; simp) (fun e m h => by rw [h1] at h; cases h)
        refine ⟨e2.trans k1, ?_, ?_, fun hm => ?_⟩
        · show rootRep w c xs (f n).loc (f n).top (f n).nest; rw [e1, e3, e4]; exact k2
        · show ∀ b ∈ (f n).nest, g.I b; rw [e4]; exact k3
        · show (f n).nest.Nodup; rw [e4]; exact k4 (h3 hm)
      · obtain ⟨b, us, k1, k2, k3, k4⟩ := hI.mem.rep n _ h2
        obtain ⟨e1, e2, e3, e4⟩ := hold n (by unfold dom; rw [h2]; simp) (fun e m h => by rw [h1] at h; cases h)
        exact ⟨b, us, e3.trans k1, e1.trans k2, k3, gives_imp g1 h3 (hokbox n ss h1) k4⟩
      · rcases h2 with ⟨_, rfl⟩ | ⟨_, h3, h4⟩
        · trivial
        · have hrep := hI.mem.rep n e h4
          obtain ⟨e1, e2, e3, e4⟩ := hold n (by unfold dom; rw [h4]; simp) (fun e m h => by rw [h1] at h; cases h)
          cases e with
          | gone => trivial
          | fwd c xs => show shRep _ w (.sl c) xs (f n).loc; rw [e1]; exact hrep
          | root c m xs =>
            obtain ⟨k1, k2, k3, k4⟩ := hrep
            refine ⟨e2.trans k1, ?_, ?_, fun hm => ?_⟩
            · show rootRep w c xs (f n).loc (f n).top (f n).nest; rw [e1, e3, e4]; exact k2
            · show ∀ b ∈ (f n).nest, g.I b; rw [e4]; exact k3
            · show (f n).nest.Nodup; rw [e4]; exact k4 hm
          | box cs =>
            obtain ⟨b, us, k1, k2, k3, k4⟩ := hrep
            refine ⟨b, us, e3.trans k1, e1.trans k2, k3, ?_⟩
            exact All2.imp (fun _ _ h => h.mono hle) (cells_restrict k4 (hbox_old n cs h3))
          | frz c xs =>
            obtain ⟨k1, k2, k3, k4, k5⟩ := hrep
            refine ⟨e2.trans k1, e3.trans k2, ?_, ?_, ?_⟩
            · show CT.Rep w (.sl c) xs (f n).loc (f n).nest; rw [e1, e4]; exact k3
            · show ∀ b ∈ (f n).nest, g.I b; rw [e4]; exact k4
            · show (f n).nest.Nodup; rw [e4]; exact k5
          | tree c xs =>
            obtain ⟨k1, k2, k3⟩ := hrep
            refine ⟨e2.trans k1, ?_, ?_⟩
            · show treeRep w c xs (f n).loc (f n).nest (g.rows n); rw [e1, e4]; exact k2
            · show (f n).nest.Nodup; rw [e4]; exact k3
      · obtain ⟨k1, k2, k3⟩ := hI.mem.rep n _ h2
        obtain ⟨e1, e2, e3, e4⟩ := hold n (by unfold dom; rw [h2]; simp) (fun e m h => by rw [h1] at h; cases h)
        refine ⟨e2.trans k1, ?_, ?_⟩
        · show treeRep w c xs (f n).loc (f n).nest (g.rows n); rw [e1, e4]; exact k2
        · show (f n).nest.Nodup; rw [e4]; exact k3
    · have hkeep : ∀ {k : Name} {e' : Entry}, find S'.en n = some e' → (e.alive = true → e'.alive = true) → (e.deep = true → e'.deep = true) → (∀ e m, find s.en n ≠ some (.root e m)) → Link S S' M s n n →
          ((g.all f).top n = none ∧ (g.all f).nest n = []) ∨ ∃ k f', find S'.en k = some f' ∧ (e.alive = true → f'.alive = true) ∧ (e.deep = true → f'.deep = true) ∧ (g.all f).top n = g.top k ∧ (∀ b ∈ (g.all f).nest n, b ∈ g.nest k) ∧ Link S S' M s n k := by
        intro _ e' h1 h2 h3 h4 h5
        obtain ⟨e1, e2, e3, e4⟩ := hold n (by unfold dom; rw [h1]; simp) h4
        exact .inr ⟨n, e', h1, h2, h3, e3, fun b hb => by rw [← e4]; exact hb, h5⟩
      rcases hlook n e he with ⟨c, m, x, xs, h1, rfl, h2, h3, h4⟩ | ⟨c, m, m', xs, h1, rfl, h2, h3⟩ | ⟨ss, cs, cs', h1, rfl, h2, h3⟩ | ⟨h1, h2⟩ | ⟨c, xs, h1, rfl, h2⟩
      · rcases h4.old with ⟨k1, k2⟩ | ⟨r, m', ys, k1, k2, k3, k4, k5⟩
        · exact .inl ⟨k1, k2⟩
        · exact .inr ⟨r, _, k2, fun _ => rfl, k5, k3, k4, .inl ⟨c, m, x, c, m', ys, h1, h2, k1, k2⟩⟩
      · exact hkeep (k := n) h2 (fun _ => rfl) h3 (fun e m h => by rw [h1] at h; cases h) (.inr (.inl ⟨rfl, c, m, h1⟩))
      · exact hkeep (k := n) h2 (fun _ => rfl) (fun h => by cases h) (fun e m h => by rw [h1] at h; cases h) (.inr (.inr (.inl ⟨rfl, ss, cs, h1, h2⟩)))
      · rcases h2 with ⟨_, rfl⟩ | ⟨hM, h3, h4⟩
        · rcases ha with ha | ha <;> cases ha
        · exact hkeep (k := n) h4 id id (fun e m h => by rw [h1] at h; cases h) (.inr (.inr (.inr ⟨rfl, h1, hM, by unfold dom; rw [h3]; simp⟩)))
      · rcases ha with ha | ha <;> cases ha
    · rcases hlook n e he with ⟨c, m, x, xs, h1, rfl, h2, h3, h4⟩ | ⟨c, m, m', xs, h1, rfl, h2, h3⟩ | ⟨ss, cs, cs', h1, rfl, h2, h3⟩ | ⟨h1, h2⟩ | ⟨c, xs, h1, rfl, h2⟩
      · cases ht
      · cases ht
      · cases ht
      · rcases h2 with ⟨_, rfl⟩ | ⟨hM, h3, h4⟩
        · cases ht
        · exact ⟨⟨e, h4, ht⟩, (hold n (by unfold dom; rw [h4]; simp) (fun e m h => by rw [h1] at h; cases h)).2.2.2⟩
      · exact ⟨⟨_, h2, rfl⟩, (hold n (by unfold dom; rw [h2]; simp) (fun e m h => by rw [h1] at h; cases h)).2.2.2⟩
    · show ((f n).loc).oneCell' = true
      have := hf n
      unfold InfoOk at this
      split at this
      · obtain ⟨x, xs, _, _, h⟩ := this; exact h.one
      · by_cases hd : dom S'.en n
        · rw [(this.1 hd).1]; exact hI.mem.one n hd
        · rw [this.2 hd]; rfl
  -- slots
  have htmv : ∀ t, (∃ agg ss cs, find s.tm t = some (agg, ss) ∧ okAgg agg (S'.tmp t) = true ∧ (s.over ⟨W ++ S.tm, M ++ S.en⟩ d).tmp t = avOf agg cs ∧ Gives S' (s.sigma S') ss (S'.tmp t).cells cs) ∨
      (s.over ⟨W ++ S.tm, M ++ S.en⟩ d).tmp t = .undef ∨ (S'.tmp t = S.tmp t ∧ (s.over ⟨W ++ S.tm, M ++ S.en⟩ d).tmp t = S.tmp t) := by
    intro t
    have h0 := htm t
    unfold TmGives at h0
    unfold St.tmp
    rw [hTd, find_append]
    cases hs : find s.tm t with
    | some q =>
      obtain ⟨agg, ss⟩ := q
      rw [hs] at h0
      obtain ⟨h1, cs, h2, h3⟩ := h0
      rw [h2]
      exact .inl ⟨agg, ss, cs, rfl, h1, rfl, h3⟩
    | none =>
      rw [hs] at h0
      simp only at h0
      rw [h0, find_append]
      cases hW : find W t with
      | some v => obtain rfl := hT.undef t v hW; exact .inr (.inl rfl)
      | none => exact .inr (.inr ⟨hT.tm t hW, rfl⟩)
  have hoktm : ∀ t agg ss, find s.tm t = some (agg, ss) → ss.all ok = true := fun t agg ss h => by
    have := List.all_eq_true.1 hokt _ (find_mem_pair h); exact this
  refine ⟨g.all f, ⟨by rw [hE]; exact hMS.mem, by rw [hE]; exact hMS.since, fun t => ?_, hI.plain⟩, hle, ⟨fun t => ?_, ?_⟩⟩
  · rw [hE]
    rcases htmv t with ⟨agg, ss, cs, h1, h2, h3, h4⟩ | h | ⟨h1, h2⟩
    · rw [h3]
      have hv := hI.tmps t
      have hal := hoktm t agg ss h1
      cases hx : S'.tmp t with
      | cell c =>
        rw [hx] at h2 h4 hv
        cases agg with
        | true => cases h2
        | false =>
          have hl := gives_length h4
          have := gives_imp (vs := [a.tmps.getD t undef]) g1 h4 hal (show All2 _ [c] _ from ⟨hv, trivial⟩)
          cases cs with
          | nil => simp [AV.cells] at hl
          | cons y ys => cases ys with
            | nil => exact this.1
            | cons _ _ => simp [AV.cells] at hl
      | agg ds =>
        rw [hx] at h2 h4 hv
        cases agg with
        | false => cases h2
        | true =>
          obtain ⟨vs, e, k⟩ := hv
          have := gives_imp g1 h4 hal k
          have hav : avOf true cs = .agg cs := by cases cs <;> rfl
          rw [hav]
          exact ⟨vs, e, this⟩
      | tup l => rw [hx] at h2; cases agg <;> cases h2
    · rw [h]; exact trivial
    · rw [h2]
      have hv := hI.tmps t
      rw [h1] at hv
      exact (hv.restrict (hcS.tmp t)).mono hle
  · rw [hE]
    rcases htmv t with ⟨agg, ss, cs, h1, h2, h3, h4⟩ | h | ⟨h1, h2⟩
    · rw [h3]
      have hin := gives_in g2 h4 (hoktm t agg ss h1)
      have := avOf_in (agg := agg) hin
      cases hav : avOf agg cs with
      | cell c => rw [hav] at this; exact this
      | agg ds => rw [hav] at this; exact this
      | tup l => rw [hav] at this; exact this.elim
    · rw [h]; exact data_in rfl
    · rw [h2]; exact (hcS.tmp t).mono hdomS
  · intro n cs hn c hc
    rw [hE] at hn ⊢
    rcases hlook n _ hn with ⟨_, _, _, _, _, h, _⟩ | ⟨_, _, _, _, _, h, _⟩ | ⟨ss, cs1, cs', h1, h, h2, h3⟩ | ⟨h1, h2⟩ | ⟨_, _, _, h, _⟩
    · cases h
    · cases h
    · cases h; exact gives_in g2 h3 (hokbox n ss h1) c hc
    · rcases h2 with ⟨_, h⟩ | ⟨_, h3, _⟩
      · cases h
      · exact (hbox_old n cs h3 c hc).mono hdomS
    · cases h
end Go.V
namespace Go.V
set_option linter.unusedVariables false
set_option linter.unusedSimpArgs false
variable {P : Program} {w0 : World} {T N : Nat → Prop} {S S' S1 S2 : St} {g g1 : Gh} {w w1 w' : World} {a a' : Act} {G : Env} {nt : Nat} {ann : List (Nat × LoopAnn)}

theorem Ext.refl (S : St) : Ext S S := ⟨⟨[], rfl⟩, ⟨[], rfl⟩⟩
theorem Ext.trans (h : Ext S S1) (k : Ext S1 S2) : Ext S S2 := by
  obtain ⟨⟨x, hx⟩, hy⟩ := h
  obtain ⟨⟨z, hz⟩, ht⟩ := k
  exact ⟨⟨z ++ x, by rw [hz, hx, List.append_assoc]⟩, tm_more ht hy⟩
theorem At.trans {D0 : Name → Prop} {g0 : Gh} {w00 : World} (hle : Le D0 g0 w00 (dom S.en) g w) (h : At w0 T N nt (dom S.en) g w S' a' w') : At w0 T N nt D0 g0 w00 S' a' w' := by
  obtain ⟨g', h1, h2, h3⟩ := h
  exact ⟨g', h1, h2, hle.trans h3⟩
theorem loop_some {α β : Type} {step : α → Option (α ⊕ β)} {x : α} {y : β} (h : loop step x = some y) : ∃ k, iter step k x = some y := by
  unfold loop at h
  split at h
  · exact ⟨_, h⟩
  · cases h

theorem boxNames_gone : ∀ {l : List (Name × SEnt)} {n : Name} {e : Entry}, find (boxNames l) n = some e → e = .gone
  | [], n, e, h => by cases h
  | (k, .box ss) :: l, n, e, h => by
    simp only [boxNames, find_cons] at h
    split at h
    · cases h; rfl
    · exact boxNames_gone h
  | (k, .keep c m) :: l, n, e, h => by
    simp only [boxNames, find_cons] at h
    split at h
    · cases h; rfl
    · exact boxNames_gone h
  | (k, .root c m) :: l, n, e, h => boxNames_gone (l := l) h
  | (k, .tree c) :: l, n, e, h => by
    simp only [boxNames, find_cons] at h
    split at h
    · cases h; rfl
    · exact boxNames_gone h
theorem sigmaNames_gone : ∀ {l : List (Name × Cell)} {n : Name} {e : Entry}, find (sigmaNames l) n = some e → e = .gone
  | [], n, e, h => by cases h
  | (k, x) :: l, n, e, h => by
    simp only [sigmaNames] at h
    split at h
    · rw [find_cons] at h
      split at h
      · cases h; rfl
      · exact sigmaNames_gone h
    · exact sigmaNames_gone h
theorem mods_gone {L : LoopAnn} {n : Name} {e : Entry} (h : find (L.mods S) n = some e) : e = .gone := by
  unfold LoopAnn.mods at h
  rw [find_append] at h
  split at h
  · rename_i hx; cases h; exact boxNames_gone hx
  · rw [find_append] at h
    split at h
    · rename_i hx; cases h; exact boxNames_gone hx
    · rw [find_append] at h
      split at h
      · rename_i hx; cases h
        cases hb : L.back with
        | none => rw [hb] at hx; cases hx
        | some s => rw [hb] at hx; exact boxNames_gone hx
      · exact sigmaNames_gone h
theorem boxNames_kept {l : List (Name × SEnt)} {n : Name} (h : keptBox l n = true) : n ∈ (boxNames l).map (·.1) := by
  induction l with
  | nil => cases h
  | cons p l ih =>
    obtain ⟨k, x⟩ := p
    simp only [keptBox, List.any_cons, Bool.or_eq_true, Bool.and_eq_true] at h
    rcases h with ⟨h1, h2⟩ | h
    · obtain rfl := Nat.eq_of_beq_eq_true h1
      cases x with
      | root c m => cases h2
      | keep c m => simp [boxNames]
      | tree c => simp [boxNames]
      | box ss => simp [boxNames]
    · have := ih h
      cases x with
      | root c m => exact this
      | keep c m => exact List.mem_cons_of_mem _ this
      | tree c => exact List.mem_cons_of_mem _ this
      | box ss => exact List.mem_cons_of_mem _ this
theorem sigmaNames_mem {l : List (Name × Cell)} {p : Name × Cell} {r : Name} (hp : p ∈ l) (hr : rootOf p.2 = some r) : r ∈ (sigmaNames l).map (·.1) := by
  induction l with
  | nil => simp at hp
  | cons q l ih =>
    obtain ⟨k, x⟩ := q
    simp only [sigmaNames]
    rcases List.mem_cons.1 hp with rfl | hp
    · simp only at hr; rw [hr]; simp
    · split
      · exact List.mem_cons_of_mem _ (ih hp)
      · exact ih hp
theorem mods_mem {L : LoopAnn} {n : Name} (h : n ∈ (boxNames L.head.en).map (·.1) ∨ n ∈ (boxNames L.out.en).map (·.1) ∨ n ∈ (backNames L.back).map (·.1) ∨ n ∈ (sigmaNames (L.head.sigma S)).map (·.1)) : find (L.mods S) n ≠ none := by
  rw [← find_in]
  unfold LoopAnn.mods
  simp only [List.map_append, List.mem_append]
  rcases h with h | h | h | h
  · exact .inl h
  · exact .inr (.inl h)
  · exact .inr (.inr (.inl h))
  · exact .inr (.inr (.inr h))
theorem wipe_undef : ∀ {c : Code} {t : Nat} {v : AV}, (t, v) ∈ wipe c → v = .undef := by
  have hf : ∀ (l : List (Nat × Oper)) (t : Nat) (v : AV), (t, v) ∈ forgets l → v = .undef := by
    intro l
    induction l with
    | nil => intro t v h; simp [forgets] at h
    | cons p l ih =>
      intro t v h
      obtain ⟨i, o⟩ := p
      simp only [forgets] at h
      split at h
      · rcases List.mem_cons.1 h with h | h
        · exact (Prod.mk.inj h).2
        · exact ih t v h
      · exact ih t v h
  intro c
  induction c with
  | region id ops draw => intro t v h; exact hf _ t v h
  | seq x y ihx ihy => intro t v h; exact (List.mem_append.1 h).elim ihx ihy
  | cond o x y ihx ihy => intro t v h; exact (List.mem_append.1 h).elim ihx ihy
  | block i x ih => intro t v h; exact ih h
  | loop x ih => intro t v h; exact ih h
  | _ => intro t v h; simp [wipe] at h
theorem giveEnts_names : ∀ (l : List (Name × SEnt)) (z : Tup (entsCs l)), (giveEnts l z).map (·.1) = l.map (·.1)
  | [], z => rfl
  | (n, .root e m) :: l, z => congrArg (n :: ·) (giveEnts_names l _)
  | (n, .keep e m) :: l, z => congrArg (n :: ·) (giveEnts_names l _)
  | (n, .box ss) :: l, z => congrArg (n :: ·) (giveEnts_names l _)
  | (n, .tree e) :: l, z => congrArg (n :: ·) (giveEnts_names l _)
theorem giveTms_names : ∀ (l : List (Nat × Bool × List SCell)) (R : List Cs) (z : Tup (tmsCs l R)), (giveTms l R z).1.map (·.1) = l.map (·.1)
  | [], R, z => rfl
  | (t, agg, ss) :: l, R, z => congrArg (t :: ·) (giveTms_names l R _)
theorem newPart_prefix {α : Type} {old nw : List (Nat × α)} : newPart old (nw ++ old) = nw := by
  unfold newPart
  rw [List.length_append, Nat.add_sub_cancel, List.take_left]
theorem notin_find {α : Type} {l : List (Nat × α)} {n : Nat} (h : ∀ p ∈ l, p.1 ≠ n) : find l n = none := by
  cases hf : find l n with
  | none => rfl
  | some x => exact absurd rfl (h _ (find_mem_pair hf))
def LoopAnn.has (L : LoopAnn) (s : Shape) : Prop := s = L.head ∨ s = L.out ∨ L.back = some s
theorem LoopAnn.has_ok {L : LoopAnn} {s : Shape} {body : Code} (h : L.has s) (hk : L.okAt body S = true) : s.okAt S = true := by
  simp only [LoopAnn.okAt, Bool.and_eq_true] at hk
  obtain ⟨h1, h2, h3, h4⟩ := hk
  rcases h with rfl | rfl | h
  · exact h1
  · exact h2
  · rw [h] at h4; exact h4
theorem LoopAnn.has_kept {L : LoopAnn} {s : Shape} (h : L.has s) {n : Name} (hn : keptBox s.en n = true) : find (L.mods S) n ≠ none := by
  have := boxNames_kept hn
  rcases h with rfl | rfl | h
  · exact mods_mem (.inl this)
  · exact mods_mem (.inr (.inl this))
  · exact mods_mem (.inr (.inr (.inl (by rw [h]; exact this))))
theorem Takes.entry {L : LoopAnn} {body : Code} (hk : L.okAt body S = true) : Takes S S (L.mods S) (wipe body) L.head := by
  refine ⟨fun n e h => mods_gone h, fun t v h => wipe_undef (find_mem_pair h), fun n h => h, fun n _ _ => rfl, fun t _ => rfl, fun n h => LoopAnn.has_kept (.inl rfl) h, LoopAnn.has_ok (.inl rfl) hk, ?_⟩
  refine List.all_eq_true.2 fun p hp => ?_
  split
  · rfl
  · rename_i r hr
    split
    · rfl
    · have := mods_mem (L := L) (S := S) (.inr (.inr (.inr (sigmaNames_mem hp hr))))
      cases h : find (L.mods S) r with
      | none => exact absurd h this
      | some _ => rfl
theorem Takes.behind {L : LoopAnn} {body : Code} {d : L.head.den} {s : Shape} (hk : L.okAt body S = true) (hs : L.has s) (hx : Ext (L.head.over (L.base body S) d) S') (hn : L.okNew body S (L.head.over (L.base body S) d) S' = true) (hf : Go.V.freed S (L.mods S) (s.sigma S') = true) :
    Takes S S' (L.mods S) (wipe body) s := by
  obtain ⟨⟨nw, hen⟩, nt, htm⟩ := hx
  have hE : S'.en = nw ++ ((L.head.st d).en ++ (L.mods S ++ S.en)) := hen
  have hT : S'.tm = nt ++ ((L.head.st d).tm ++ (wipe body ++ S.tm)) := htm
  have hk' := hk
  simp only [LoopAnn.okAt, Bool.and_eq_true] at hk'
  have hk1 := hk'.1
  simp only [Shape.okAt, Bool.and_eq_true] at hk1
  simp only [LoopAnn.okNew, Bool.and_eq_true] at hn
  rw [hen, htm, newPart_prefix, newPart_prefix] at hn
  refine ⟨fun n e h => mods_gone h, fun t v h => wipe_undef (find_mem_pair h), fun n h => ?_, fun n hm hd => ?_, fun t ht => ?_, fun n h => LoopAnn.has_kept hs h, LoopAnn.has_ok hs hk, hf⟩
  · rw [hE]; exact dom_more _ _ _ (dom_more _ _ _ (dom_more _ _ _ h))
  · rw [hE, find_append, notin_find fun p hp he => ?_]
    · simp only
      rw [find_append]
      have : find (L.head.st d).en n = none := by
        cases hf : find (L.head.st d).en n with
        | none => rfl
        | some y =>
          exfalso
          have h1 : n ∈ (giveEnts L.head.en (giveTms L.head.tm (entsCs L.head.en) d).2).map (·.1) := find_in.2 (by rw [show find (giveEnts L.head.en (giveTms L.head.tm (entsCs L.head.en) d).2) n = some y from hf]; simp)
          rw [giveEnts_names] at h1
          obtain ⟨p, hp, rfl⟩ := List.mem_map.1 h1
          obtain ⟨k, x⟩ := p
          cases x with
          | root e m => exact hd (freshRoots_spec hk1.1 hp)
          | keep e m => exact LoopAnn.has_kept (S := S) (L := L) (.inl rfl) (find_kept (nodupE_find hk1.2.1 hp) (by simp)) hm
          | tree e => exact LoopAnn.has_kept (S := S) (L := L) (.inl rfl) (find_kept (nodupE_find hk1.2.1 hp) (by simp)) hm
          | box ss => exact LoopAnn.has_kept (S := S) (L := L) (.inl rfl) (find_kept (nodupE_find hk1.2.1 hp) (by simp)) hm
      rw [this]
      simp only
      rw [find_append, hm]
    · have := List.all_eq_true.1 hn.1 p hp
      rw [he] at this
      split at this
      · rename_i h; exact hd h
      · rw [hm] at this; cases this
  · unfold St.tmp
    rw [hT, find_append, notin_find fun p hp he => ?_]
    · simp only
      rw [find_append]
      have : find (L.head.st d).tm t = none := by
        cases hf : find (L.head.st d).tm t with
        | none => rfl
        | some y =>
          exfalso
          have h1 : t ∈ (giveTms L.head.tm (entsCs L.head.en) d).1.map (·.1) := find_in.2 (by rw [show find (giveTms L.head.tm (entsCs L.head.en) d).1 t = some y from hf]; simp)
          have h1 : t ∈ L.head.tm.map (·.1) := (giveTms_names L.head.tm (entsCs L.head.en) d) ▸ h1
          obtain ⟨p, hp, rfl⟩ := List.mem_map.1 h1
          have := List.all_eq_true.1 hk'.2.2.1 p hp
          rw [ht] at this; cases this
      rw [this]
      simp only
      rw [find_append, ht]
    · have := List.all_eq_true.1 hn.2 p hp
      rw [he, ht] at this; cases this
theorem leave_some {A : Type} {L : LoopAnn} {body : Code} {H : St} {s : Shape} {k : s.den → Option A} {r : A} (h : L.leave body S H s S' k = some r) :
    distinct (s.seals S') = true ∧ L.okNew body S H (s.shut S') = true ∧ freed S (L.mods S) (s.sigma (s.shut S')) = true ∧ ∃ d, s.read (s.shut S') = some d ∧ k d = some r := by
  unfold LoopAnn.leave at h
  cases hc : (distinct (s.seals S') && (L.okNew body S H (s.shut S') && freed S (L.mods S) (s.sigma (s.shut S')))) with
  | false => rw [hc] at h; cases h
  | true =>
    rw [hc] at h
    simp only [Bool.and_eq_true, cond_true] at hc h
    cases hd : s.read (s.shut S') with
    | none => rw [hd] at h; cases h
    | some d => rw [hd] at h; exact ⟨hc.1, hc.2.1, hc.2.2, d, rfl, h⟩
theorem over_ext {s : Shape} {L : LoopAnn} {body : Code} {d : s.den} : Ext S (s.over (L.base body S) d) := by
  refine ⟨⟨(s.st d).en ++ L.mods S, ?_⟩, ⟨(s.st d).tm ++ wipe body, ?_⟩⟩
  · show (s.st d).en ++ (L.mods S ++ S.en) = _; rw [List.append_assoc]
  · show (s.st d).tm ++ (wipe body ++ S.tm) = _; rw [List.append_assoc]
end Go.V
namespace Go.V
set_option linter.unusedVariables false
set_option linter.unusedSimpArgs false
variable {P : Program} {w0 : World} {T N : Nat → Prop} {S S' S1 S2 : St} {g g1 : Gh} {w w1 w' : World} {a a' : Act} {G : Env} {nt : Nat} {ann : List (Nat × LoopAnn)}

structure Goes (w0 : World) (T N : Nat → Prop) (nt : Nat) (S : St) (g : Gh) (w : World) {A : Type} (K : Conts A) (r : A) (Q : Exit → Act → World → Prop) : Prop where
  n : ∀ S' a' w', Closed S' → Ext S S' → At w0 T N nt (dom S.en) g w S' a' w' → K.n S' = some r → Q .normal a' w'
  x : ∀ i S' a' w', Closed S' → Ext S S' → At w0 T N nt (dom S.en) g w S' a' w' → K.x i S' = some r → Q (.exit i) a' w'
  r : ∀ S' a' w', Closed S' → Ext S S' → At w0 T N nt (dom S.en) g w S' a' w' → K.r S' = some r → Q .ret a' w'
def Does' (P : Program) (G : Env) (ann : List (Nat × LoopAnn)) (nt : Nat) (c : Code) : Prop :=
  ∀ {A : Type} {w0 : World} {T N : Nat → Prop} {S : St} {K : Conts A} {r : A} {g : Gh} {w : World} {a : Act} {Q : Exit → Act → World → Prop}, below nt c = true → Inv w0 T N S g w a → nt ≤ a.tmps.size → Closed S → exec G ann c S K = some r →
    Goes w0 T N nt S g w K r Q → c.wp P Q a w
theorem iter_succ {α β : Type} (step : α → Option (α ⊕ β)) (k : Nat) (x : α) : iter step (k + 1) x = (step x).bind (Sum.elim (iter step k) some) := by
  show (step x).bind _ = _
  congr 1
  funext v
  cases v <;> rfl
theorem preCells_used {S : St} : ∀ {l : List SCell} {xs : List Cell}, usedOk S.en false true (preCells S l xs)
  | [], xs => by intro p hp; cases xs <;> simp [preCells] at hp
  | s :: l, [] => by intro p hp; cases s <;> simp [preCells] at hp
  | s :: l, x :: xs => by
    have ih := preCells_used (S := S) (l := l) (xs := xs)
    have key : ∀ {c : CT} {x : Cell}, usedOk S.en false true (preCells S (.dat c :: l) (x :: xs)) := by
      intro c x
      cases c with
      | sl e => cases x with
        | own r =>
          intro p hp
          simp only [preCells] at hp
          rcases List.mem_append.1 hp with hp | hp
          · split at hp
            · rename_i e' m ys hr
              obtain rfl := List.mem_singleton.1 hp
              exact .inl ⟨e', m, ys, hr, (fun h => by cases h), rfl⟩
            · simp at hp
          · exact ih p hp
        | _ => exact ih
      | _ => exact ih
    cases s with
    | dat c => exact key
    | _ => exact ih
theorem seals_used {s : Shape} {S : St} : usedOk S.en false true (s.seals S) := by
  refine usedOk.append (fun p hp => ?_) (fun p hp => ?_)
  · obtain ⟨q, _, hp⟩ := List.mem_flatMap.1 hp
    exact preCells_used p hp
  · obtain ⟨q, _, hp⟩ := List.mem_flatMap.1 hp
    split at hp
    · split at hp
      · exact preCells_used p hp
      · simp at hp
    · simp at hp
theorem used_nobox {en l : List (Name × Entry)} {deep : Bool} (hu : usedOk en deep true l) (n : Name) (cs : List Cell) : (n, Entry.box cs) ∉ l := fun h => by
  rcases hu _ h with ⟨_, _, _, _, _, he⟩ | ⟨_, _, _, _, he⟩ <;> cases he
def coldOk (en l : List (Name × Entry)) : Prop := ∀ p ∈ l, ∃ e xs, find en p.1 = some (.root e true xs) ∧ p.2 = .frz e xs
theorem cold_ok {S : St} {l : List Name} : coldOk S.en (S.cold l) := by
  intro p hp
  obtain ⟨r, _, hp⟩ := List.mem_flatMap.1 hp
  split at hp
  · rename_i e xs hn
    obtain rfl := List.mem_singleton.1 hp
    exact ⟨e, xs, hn, rfl⟩
  · simp at hp
theorem MS.coldAll {en : List (Name × Entry)} (h : MS w0 T N en g w) : ∀ {l : List (Name × Entry)}, coldOk en l → distinct l = true → ∃ g', MS w0 T N (l ++ en) g' w ∧ Le (dom en) g w (dom (l ++ en)) g' w
  | [], _, _ => ⟨g, h, Le.refl _ _ _⟩
  | (n, E) :: l, hu, hd => by
    obtain ⟨h1, h2⟩ := distinct_cons hd
    obtain ⟨g1, hM, hle⟩ := h.coldAll (l := l) (fun p hp => hu p (List.mem_cons_of_mem _ hp)) h2
    obtain ⟨e, xs, hn, he⟩ := hu (n, E) List.mem_cons_self
    obtain rfl : E = .frz e xs := he
    obtain ⟨g2, hM2, hle2, _⟩ := hM.frz (n := n) ((find_skip h1).trans hn)
    exact ⟨g2, hM2, hle.trans hle2⟩
theorem more_wp {c : Code} {l : List (Name × Entry)} {A : Type} {K : Conts A} {r : A} {Q : Exit → Act → World → Prop} {a : Act} (hI : Inv w0 T N S g w a) (hcS : Closed S) (hg : Goes w0 T N nt S g w K r Q)
    (hm : ∃ g1, MS w0 T N (l ++ S.en) g1 w ∧ Le (dom S.en) g w (dom (l ++ S.en)) g1 w) (hnb : ∀ n cs, (n, Entry.box cs) ∉ l)
    (k : ∀ g1, Inv w0 T N (S.more l) g1 w a → Closed (S.more l) → Goes w0 T N nt (S.more l) g1 w K r Q → c.wp P Q a w) : c.wp P Q a w := by
  obtain ⟨g1, hM, hle⟩ := hm
  have hdom : ∀ n, dom S.en n → dom (S.more l).en n := fun n h => dom_right h
  have hI1 : Inv w0 T N (S.more l) g1 w a := ⟨hM.mem, hM.since, fun t => (hI.tmps t).mono hle, hI.plain⟩
  have hc1 : Closed (S.more l) := ⟨fun t => (hcS.tmp t).mono hdom, fun n cs h => by
    have h : find (l ++ S.en) n = some (.box cs) := h
    rw [find_append] at h
    split at h
    · rename_i y hy
      cases h
      exact absurd (find_mem_pair hy) (hnb n cs)
    · exact fun c hc => (hcS.box n cs h c hc).mono hdom⟩
  have hx : Ext S (S.more l) := ⟨⟨_, rfl⟩, ⟨[], rfl⟩⟩
  exact k g1 hI1 hc1 ⟨fun S' a' w' h1 h2 h3 h4 => hg.n S' a' w' h1 (hx.trans h2) (At.trans hle h3) h4, fun i S' a' w' h1 h2 h3 h4 => hg.x i S' a' w' h1 (hx.trans h2) (At.trans hle h3) h4, fun S' a' w' h1 h2 h3 h4 => hg.r S' a' w' h1 (hx.trans h2) (At.trans hle h3) h4⟩
theorem more_all {l : List (Name × Entry)} {D : Name → Prop} {H : St} (hu : usedOk S'.en false true l) (hd : distinct l = true) (hc : Closed S') (he : Ext H S') (hat : At w0 T N nt D g w S' a' w') :
    Closed (S'.more l) ∧ Ext H (S'.more l) ∧ At w0 T N nt D g w (S'.more l) a' w' := by
  obtain ⟨g1, hI, hn, hle0⟩ := hat
  obtain ⟨g2, hM, hle, _⟩ := hI.ms.useAll hu hd
  have hdom : ∀ n, dom S'.en n → dom (S'.more l).en n := fun n h => dom_right h
  refine ⟨⟨fun t => (hc.tmp t).mono hdom, fun n cs h => ?_⟩, he.trans ⟨⟨_, rfl⟩, ⟨[], rfl⟩⟩, g2, ⟨hM.mem, hM.since, fun t => (hI.tmps t).mono hle, hI.plain⟩, hn, hle0.trans hle⟩
  have h : find (l ++ S'.en) n = some (.box cs) := h
  rw [find_append] at h
  split at h
  · rename_i y hy
    cases h
    exact absurd (find_mem_pair hy) (used_nobox hu n cs)
  · exact fun c hc' => (hc.box n cs h c hc').mono hdom
theorem rounds_wp {L : LoopAnn} {body : Code} (hb : Does' P G ann nt body) (hbel : below nt body = true) (hk : L.okAt body S = true) (hcS : Closed S) {β : Type} {KX : L.head.den → Nat → St → Option (L.head.den ⊕ β)} {KR : L.head.den → St → Option (L.head.den ⊕ β)} {y : β}
    {Q : Exit → Act → World → Prop} {step : L.head.den → Option (L.head.den ⊕ β)}
    (hstep : ∀ d, step d = exec G ann body (L.head.over (L.base body S) d) ⟨fun S' => L.leave body S (L.head.over (L.base body S) d) L.head S' fun d => some (.inl d), KX d, KR d⟩)
    (hx : ∀ d i S' a' w' v, Closed S' → Ext (L.head.over (L.base body S) d) S' → At w0 T N nt (dom S.en) g w S' a' w' → KX d i S' = some v → (∀ d', v ≠ .inl d') ∧ (v = .inr y → Q (.exit i) a' w'))
    (hr : ∀ d S' a' w' v, Closed S' → Ext (L.head.over (L.base body S) d) S' → At w0 T N nt (dom S.en) g w S' a' w' → KR d S' = some v → (∀ d', v ≠ .inl d') ∧ (v = .inr y → Q .ret a' w'))
    (hkx : True) : ∀ (k : Nat) (d : L.head.den) (a' : Act) (w' : World), iter step k d = some y → Closed (L.head.over (L.base body S) d) → At w0 T N nt (dom S.en) g w (L.head.over (L.base body S) d) a' w' → Code.rounds P body Q k a' w'
  | 0, d, a', w', h, _, _ => by cases h
  | k + 1, d, a', w', h, hc, hat => by
    rw [iter_succ] at h
    rw [Option.bind_eq_some_iff] at h
    obtain ⟨v, hv, hgo⟩ := h
    rw [hstep] at hv
    obtain ⟨g1, hI, hn, hle⟩ := hat
    rw [rounds_succ]
    refine hb hbel hI hn hc hv ⟨fun S' a2 w2 hc' he hat' hkn => ?_, fun i S' a2 w2 hc' he hat' hkx => ?_, fun S' a2 w2 hc' he hat' hkr => ?_⟩
    · obtain ⟨hd1, hn1, hf1, d', hd', hinl⟩ := leave_some hkn
      cases hinl
      obtain ⟨_, he, g2, hI2, hn2, hle2⟩ := more_all seals_used hd1 hc' he hat'
      have hT := Takes.behind hk (.inl rfl) he hn1 hf1
      obtain ⟨g3, k1, k2, k3⟩ := over_inv hI2 hcS hT hd'
      refine rounds_wp hb hbel hk hcS hstep hx hr hkx k d' a2 w2 hgo k3 ⟨g3, k1, hn2, ?_⟩
      have hle3 := hle.trans hle2
      exact ⟨k2.dom, fun n hn => (k2.loc n hn).trans (hle3.loc n hn), fun n hn => (k2.esz n hn).trans (hle3.esz n hn), fun b hb => k2.imm b (hle3.imm b hb), hle3.mem, fun n hn => (k2.rows n hn).trans (hle3.rows n hn)⟩
    · obtain ⟨h1, h2⟩ := hx d i S' a2 w2 v hc' he (At.trans hle hat') hkx
      cases v with
      | inl d' => exact absurd rfl (h1 d')
      | inr b => cases hgo; exact h2 rfl
    · obtain ⟨h1, h2⟩ := hr d S' a2 w2 v hc' he (At.trans hle hat') hkr
      cases v with
      | inl d' => exact absurd rfl (h1 d')
      | inr b => cases hgo; exact h2 rfl
theorem exit_at {L : LoopAnn} {body : Code} {s : Shape} {d : L.head.den} {d' : s.den} (hk : L.okAt body S = true) (hs : L.has s) (hcS : Closed S) (hc' : Closed S') (he : Ext (L.head.over (L.base body S) d) S') (hat : At w0 T N nt (dom S.en) g w S' a' w')
    (h0 : distinct (s.seals S') = true) (h1 : L.okNew body S (L.head.over (L.base body S) d) (s.shut S') = true) (h2 : freed S (L.mods S) (s.sigma (s.shut S')) = true) (h3 : s.read (s.shut S') = some d') :
    Closed (s.over (L.base body S) d') ∧ At w0 T N nt (dom S.en) g w (s.over (L.base body S) d') a' w' := by
  obtain ⟨_, he, g2, hI2, hn2, hle2⟩ := more_all seals_used h0 hc' he hat
  obtain ⟨g3, k1, k2, k3⟩ := over_inv hI2 hcS (Takes.behind hk hs he h1 h2) h3
  exact ⟨k3, g3, k1, hn2, ⟨k2.dom, fun n hn => (k2.loc n hn).trans (hle2.loc n hn), fun n hn => (k2.esz n hn).trans (hle2.esz n hn), fun b hb => k2.imm b (hle2.imm b hb), hle2.mem, fun n hn => (k2.rows n hn).trans (hle2.rows n hn)⟩⟩
theorem exec_block {A : Type} {id : Nat} {b : Code} {S : St} {K : Conts A} (h : ∀ c, b ≠ .loop c) : exec G ann (.block id b) S K = exec G ann b S ⟨K.n, fun i S' => cond (Nat.beq i id) (K.n S') (K.x i S'), K.r⟩ := by
  cases b with
  | loop c => exact absurd rfl (h c)
  | _ => rfl
theorem block_wp {id : Nat} {b : Code} (hb : Does' P G ann nt b) (h : ∀ c, b ≠ .loop c) : Does' P G ann nt (.block id b) := by
  intro A w0 T N S K r g w a Q hbel hI hn hc hr hg
  rw [exec_block h] at hr
  refine wp_block (hb hbel hI hn hc hr ⟨hg.n, fun i S' a' w' hc' he hat hk => ?_, hg.r⟩)
  show if i = id then Q .normal a' w' else Q (.exit i) a' w'
  have hk : cond (Nat.beq i id) (K.n S') (K.x i S') = some r := hk
  by_cases hid : i = id
  · subst hid
    rw [show Nat.beq i i = true from Nat.beq_refl i] at hk
    rw [if_pos rfl]; exact hg.n S' a' w' hc' he hat hk
  · have hb : Nat.beq i id = false := by cases hbb : Nat.beq i id with
      | false => rfl
      | true => exact absurd (Nat.eq_of_beq_eq_true hbb) hid
    rw [hb] at hk
    rw [if_neg hid]; exact hg.x i S' a' w' hc' he hat hk
theorem loop_wp0 {id : Nat} {body : Code} (hb : Does' P G ann nt body) {A : Type} {w0 : World} {T N : Nat → Prop} {S : St} {K : Conts A} {r : A} {g : Gh} {w : World} {a : Act} {Q : Exit → Act → World → Prop} (hbel : below nt body = true) (hI : Inv w0 T N S g w a) (hn : nt ≤ a.tmps.size) (hcS : Closed S)
    (hr : execLoop ann id body (fun S K => exec G ann body S K) S K = some r) (hg : Goes w0 T N nt S g w K r Q) : (Code.block id (.loop body)).wp P Q a w := by
  cases hL : find ann id with
  | none =>
    have hr : (match find ann id with | none => none | some L => _ : Option A) = some r := hr
    rw [hL] at hr; cases hr
  | some L =>
    obtain ⟨head, out, bk⟩ := L
    cases bk with
    | none =>
      have hr : (match find ann id with
        | none => none
        | some L => cond (L.okAt body S) (match L.head.read S with
          | none => none
          | some d => match L with
            | ⟨head, out, none⟩ => (loop (fun d : head.den => let H := head.over (LoopAnn.base ⟨head, out, none⟩ body S) d
                exec G ann body H ⟨fun S' => LoopAnn.leave ⟨head, out, none⟩ body S H head S' fun d => some (.inl d),
                  fun i S' => cond (Nat.beq i id) (LoopAnn.leave ⟨head, out, none⟩ body S H out S' fun d => some (.inr d)) none, fun _ => none⟩) d).bind
                fun d => K.n (out.over (LoopAnn.base ⟨head, out, none⟩ body S) d)
            | ⟨head, out, some back⟩ => _) none : Option A) = some r := hr
      rw [hL] at hr
      simp only at hr
      cases hk : LoopAnn.okAt ⟨head, out, none⟩ body S with
      | false => rw [hk] at hr; cases hr
      | true =>
        rw [hk] at hr
        simp only [cond_true] at hr
        cases hd : head.read S with
        | none => rw [hd] at hr; cases hr
        | some d0 =>
          rw [hd] at hr
          simp only at hr
          rw [Option.bind_eq_some_iff] at hr
          obtain ⟨y, hy, hend⟩ := hr
          obtain ⟨k, hit⟩ := loop_some hy
          obtain ⟨g3, k1, k2, k3⟩ := over_inv hI hcS (Takes.entry hk) hd
          refine wp_block (wp_loop_rounds k (rounds_wp (L := ⟨head, out, none⟩) hb hbel hk hcS (w0 := w0) (T := T) (N := N) (g := g) (w := w) (β := out.den) (KX := fun d i S' => cond (Nat.beq i id) (LoopAnn.leave ⟨head, out, none⟩ body S (head.over (LoopAnn.base ⟨head, out, none⟩ body S) d) out S' fun d => some (.inr d)) none) (KR := fun _ _ => none) (fun d => rfl) (fun d i S' a' w' v hc' he hat hkx => ?_) (fun d S' a' w' v hc' he hat hkr => by cases hkr) trivial k d0 a w hit k3 ⟨g3, k1, hn, k2⟩))
          have hkx : cond (Nat.beq i id) (LoopAnn.leave ⟨head, out, none⟩ body S (head.over (LoopAnn.base ⟨head, out, none⟩ body S) d) out S' fun d => some (.inr d)) none = some v := hkx
          cases hid : Nat.beq i id with
          | false => rw [hid] at hkx; cases hkx
          | true =>
            have hkx' : LoopAnn.leave ⟨head, out, none⟩ body S (head.over (LoopAnn.base ⟨head, out, none⟩ body S) d) out S' (fun d => some (.inr d)) = some v := by rw [hid] at hkx; exact hkx
            obtain rfl := Nat.eq_of_beq_eq_true hid
            obtain ⟨e0, e1, e2, d', e3, e4⟩ := leave_some (L := ⟨head, out, none⟩) hkx'
            cases e4
            refine ⟨(fun d h => by cases h), fun hv => ?_⟩
            cases hv
            obtain ⟨f1, f2⟩ := exit_at (L := ⟨head, out, none⟩) hk (.inr (.inl rfl)) hcS hc' he hat e0 e1 e2 e3
            show if i = i then Q .normal a' w' else _
            rw [if_pos rfl]
            exact hg.n _ a' w' f1 over_ext f2 hend
    | some back =>
      have hr : (match find ann id with
        | none => none
        | some L => cond (L.okAt body S) (match L.head.read S with
          | none => none
          | some d => match L with
            | ⟨head, out, none⟩ => _
            | ⟨head, out, some back⟩ => (loop (β := out.den ⊕ back.den) (fun d : head.den => let H := head.over (LoopAnn.base ⟨head, out, some back⟩ body S) d
                exec G ann body H ⟨fun S' => LoopAnn.leave ⟨head, out, some back⟩ body S H head S' fun d => some (.inl d),
                  fun i S' => cond (Nat.beq i id) (LoopAnn.leave ⟨head, out, some back⟩ body S H out S' fun d => some (.inr (.inl d))) none,
                  fun S' => LoopAnn.leave ⟨head, out, some back⟩ body S H back S' fun d => some (.inr (.inr d))⟩) d).bind
                (Sum.elim (fun d => K.n (out.over (LoopAnn.base ⟨head, out, some back⟩ body S) d)) (fun d => K.r (back.over (LoopAnn.base ⟨head, out, some back⟩ body S) d)))) none : Option A) = some r := hr
      rw [hL] at hr
      simp only at hr
      cases hk : LoopAnn.okAt ⟨head, out, some back⟩ body S with
      | false => rw [hk] at hr; cases hr
      | true =>
        rw [hk] at hr
        simp only [cond_true] at hr
        cases hd : head.read S with
        | none => rw [hd] at hr; cases hr
        | some d0 =>
          rw [hd] at hr
          simp only at hr
          rw [Option.bind_eq_some_iff] at hr
          obtain ⟨y, hy, hend⟩ := hr
          obtain ⟨k, hit⟩ := loop_some hy
          obtain ⟨g3, k1, k2, k3⟩ := over_inv hI hcS (Takes.entry hk) hd
          refine wp_block (wp_loop_rounds k (rounds_wp (L := ⟨head, out, some back⟩) hb hbel hk hcS (w0 := w0) (T := T) (N := N) (g := g) (w := w) (β := out.den ⊕ back.den) (KX := fun d i S' => cond (Nat.beq i id) (LoopAnn.leave ⟨head, out, some back⟩ body S (head.over (LoopAnn.base ⟨head, out, some back⟩ body S) d) out S' fun d => some (Sum.inr (Sum.inl d))) none) (KR := fun d S' => LoopAnn.leave ⟨head, out, some back⟩ body S (head.over (LoopAnn.base ⟨head, out, some back⟩ body S) d) back S' fun d => some (Sum.inr (Sum.inr d))) (fun d => rfl) (fun d i S' a' w' v hc' he hat hkx => ?_) (fun d S' a' w' v hc' he hat hkr => ?_) trivial k d0 a w hit k3 ⟨g3, k1, hn, k2⟩))
          · have hkx : cond (Nat.beq i id) (LoopAnn.leave ⟨head, out, some back⟩ body S (head.over (LoopAnn.base ⟨head, out, some back⟩ body S) d) out S' fun d => some (.inr (.inl d))) none = some v := hkx
            cases hid : Nat.beq i id with
            | false => rw [hid] at hkx; cases hkx
            | true =>
              have hkx' : LoopAnn.leave ⟨head, out, some back⟩ body S (head.over (LoopAnn.base ⟨head, out, some back⟩ body S) d) out S' (fun d => some (Sum.inr (Sum.inl d))) = some v := by rw [hid] at hkx; exact hkx
              obtain rfl := Nat.eq_of_beq_eq_true hid
              obtain ⟨e0, e1, e2, d', e3, e4⟩ := leave_some (L := ⟨head, out, some back⟩) hkx'
              cases e4
              refine ⟨(fun d h => by cases h), fun hv => ?_⟩
              cases hv
              obtain ⟨f1, f2⟩ := exit_at (L := ⟨head, out, some back⟩) hk (.inr (.inl rfl)) hcS hc' he hat e0 e1 e2 e3
              show if i = i then Q .normal a' w' else _
              rw [if_pos rfl]
              exact hg.n _ a' w' f1 over_ext f2 hend
          · obtain ⟨e0, e1, e2, d', e3, e4⟩ := leave_some (L := ⟨head, out, some back⟩) hkr
            cases e4
            refine ⟨(fun d h => by cases h), fun hv => ?_⟩
            cases hv
            obtain ⟨f1, f2⟩ := exit_at (L := ⟨head, out, some back⟩) hk (.inr (.inr rfl)) hcS hc' he hat e0 e1 e2 e3
            exact hg.r _ a' w' f1 over_ext f2 hend
theorem preOf_used {S : St} {id : Nat} : usedOk S.en false true (preOf ann id S) := by
  unfold preOf
  split
  · exact seals_used
  · intro p hp; simp at hp
theorem frzOf_ok {S : St} {id : Nat} : coldOk S.en (frzOf ann id S) := by
  unfold frzOf
  split
  · exact cold_ok
  · intro p hp; simp at hp
theorem loop_wp {id : Nat} {body : Code} (hb : Does' P G ann nt body) : Does' P G ann nt (.block id (.loop body)) := by
  intro A w0 T N S K r g w a Q hbel hI hn hcS hr hg
  have hr : cond (distinct (frzOf ann id S)) (cond (distinct (preOf ann id (S.more (frzOf ann id S)))) (execLoop ann id body (fun S K => exec G ann body S K) ((S.more (frzOf ann id S)).more (preOf ann id (S.more (frzOf ann id S)))) K) none) none = some r := hr
  cases hd0 : distinct (frzOf ann id S) with
  | false => rw [hd0] at hr; cases hr
  | true =>
  rw [hd0, cond_true] at hr
  generalize hS1 : S.more (frzOf ann id S) = S1 at hr
  refine more_wp (l := frzOf ann id S) hI hcS hg (hI.ms.coldAll frzOf_ok hd0) (fun n cs h => by obtain ⟨_, _, _, he⟩ := frzOf_ok _ h; cases he) fun g1 hI1 hc1 hg1 => ?_
  rw [hS1] at hI1 hc1 hg1
  cases hd : distinct (preOf ann id S1) with
  | false => rw [hd] at hr; cases hr
  | true =>
    rw [hd, cond_true] at hr
    have hu := preOf_used (ann := ann) (S := S1) (id := id)
    obtain ⟨g2, hM, hle, _⟩ := hI1.ms.useAll hu hd
    refine more_wp (l := preOf ann id S1) hI1 hc1 hg1 ⟨g2, hM, hle⟩ (used_nobox hu) fun g3 hI3 hc3 hg3 => ?_
    exact loop_wp0 hb hbel hI3 hn hc3 hr hg3

theorem seq_wp {x y : Code} (hx : Does' P G ann nt x) (hy : Does' P G ann nt y) : Does' P G ann nt (.seq x y) := by
  intro A w0 T N S K r g w a Q hb hI hn hc hr hg
  have hb : (below nt x && below nt y) = true := hb
  rw [Bool.and_eq_true] at hb
  have hr : exec G ann x S ⟨fun S' => exec G ann y S' K, K.x, K.r⟩ = some r := hr
  refine wp_seq (hx hb.1 hI hn hc hr ⟨fun S1 a1 w1 hc1 he1 hat1 hk1 => ?_, fun i S1 a1 w1 hc1 he1 hat1 hk1 => hg.x i S1 a1 w1 hc1 he1 hat1 hk1, fun S1 a1 w1 hc1 he1 hat1 hk1 => hg.r S1 a1 w1 hc1 he1 hat1 hk1⟩)
  obtain ⟨g1, hI1, hn1, hle1⟩ := hat1
  exact hy hb.2 hI1 hn1 hc1 hk1 ⟨fun S2 a2 w2 hc2 he2 hat2 hk2 => hg.n S2 a2 w2 hc2 (he1.trans he2) (At.trans hle1 hat2) hk2,
    fun i S2 a2 w2 hc2 he2 hat2 hk2 => hg.x i S2 a2 w2 hc2 (he1.trans he2) (At.trans hle1 hat2) hk2,
    fun S2 a2 w2 hc2 he2 hat2 hk2 => hg.r S2 a2 w2 hc2 (he1.trans he2) (At.trans hle1 hat2) hk2⟩
theorem cond_wp {c : Operand} {x y : Code} (hx : Does' P G ann nt x) (hy : Does' P G ann nt y) : Does' P G ann nt (.cond c x y) := by
  intro A w0 T N S K r g w a Q hb hI hn hc hr hg
  have hb : (below nt x && below nt y) = true := hb
  rw [Bool.and_eq_true] at hb
  have hr : (match S.eval c with | .cell (.bool t) => cond t (exec G ann x S K) (exec G ann y S K) | _ => none : Option A) = some r := hr
  split at hr
  · rename_i t he
    have hv : a.eval c = .bool t := eval_cell hI he
    refine wp_cond hv ?_
    cases t with
    | true => exact hx hb.1 hI hn hc hr hg
    | false => exact hy hb.2 hI hn hc hr hg
  · cases hr
theorem exec_wp (hG : Good P G) (hm : P.follows .mixedOrders = true) : ∀ c, Does' P G ann nt c
  | .skip => fun _ hI hn hc hr hg => wp_skip (hg.n _ _ _ hc (Ext.refl _) ⟨_, hI, hn, Le.refl _ _ _⟩ hr)
  | .region id ops draw => fun hb hI hn hc hr hg => region_wp hG hm hb hI hn hc hr fun S' a' w' hc' he hat hk => hg.n S' a' w' hc' he hat hk
  | .seq x y => seq_wp (exec_wp hG hm x) (exec_wp hG hm y)
  | .cond c x y => cond_wp (exec_wp hG hm x) (exec_wp hG hm y)
  | .block id (.loop body) => loop_wp (exec_wp hG hm body)
  | .block id .skip => block_wp (exec_wp hG hm .skip) (fun c h => by cases h)
  | .block id (.region i o d) => block_wp (exec_wp hG hm (.region i o d)) (fun c h => by cases h)
  | .block id (.seq x y) => block_wp (exec_wp hG hm (.seq x y)) (fun c h => by cases h)
  | .block id (.cond c x y) => block_wp (exec_wp hG hm (.cond c x y)) (fun c h => by cases h)
  | .block id (.block i x) => block_wp (exec_wp hG hm (.block i x)) (fun c h => by cases h)
  | .block id (.exit i) => block_wp (exec_wp hG hm (.exit i)) (fun c h => by cases h)
  | .block id .ret => block_wp (exec_wp hG hm .ret) (fun c h => by cases h)
  | .block id (.scope x) => fun _ _ _ _ hr _ => by cases hr
  | .block id (.label l) => fun _ _ _ _ hr _ => by cases hr
  | .block id (.goto l) => fun _ _ _ _ hr _ => by cases hr
  | .exit id => fun _ hI hn hc hr hg => wp_exit (hg.x id _ _ _ hc (Ext.refl _) ⟨_, hI, hn, Le.refl _ _ _⟩ hr)
  | .ret => fun _ hI hn hc hr hg => wp_ret (hg.r _ _ _ hc (Ext.refl _) ⟨_, hI, hn, Le.refl _ _ _⟩ hr)
  | .loop _ => fun _ _ _ _ hr _ => by cases hr
  | .scope _ => fun _ _ _ _ hr _ => by cases hr
  | .label _ => fun _ _ _ _ hr _ => by cases hr
  | .goto _ => fun _ _ _ _ hr _ => by cases hr
  | .block id (.rangeFunc ..) => fun _ _ _ _ hr _ => by cases hr
  | .block id (.refuse ..) => fun _ _ _ _ hr _ => by cases hr
  | .rangeFunc .. => fun _ _ _ _ hr _ => by cases hr
  | .refuse .. => fun _ _ _ _ hr _ => by cases hr
end Go.V
namespace Go.V
set_option linter.unusedVariables false
set_option linter.unusedSimpArgs false
variable {w0 : World} {T N : Nat → Prop} {en en' : List (Name × Entry)} {g g' : Gh} {w : World}

def CT.Gifts (I : Nat → Prop) (w : World) : (c : CT) → c.den → Value → List Nat → List Nat → Prop
  | .sl e, xs, v, ts, ns => ∃ tp : Option Nat, ts = tp.toList ∧ rootRep w e xs v tp ns ∧ ∀ b ∈ ns, I b
  | c, x, v, ts, ns => ts = [] ∧ ns = [] ∧ CT.Rep w c x v []
def Cs.Gifts (I : Nat → Prop) (w : World) : (e : Cs) → e.den → List Value → List Nat → List Nat → Prop
  | .one c, x, vs, ts, ns => ∃ v, vs = [v] ∧ CT.Gifts I w c x v ts ns
  | .cons c r, x, vs, ts, ns => ∃ v vs' t1 t2 n1 n2, vs = v :: vs' ∧ ts = t1 ++ t2 ∧ ns = n1 ++ n2 ∧ CT.Gifts I w c x.1 v t1 n1 ∧ Cs.Gifts I w r x.2 vs' t2 n2
structure Givable (w0 : World) (T N : Nat → Prop) (en : List (Name × Entry)) (g : Gh) (ts ns : List Nat) : Prop where
  t1 : Once ts
  n1 : Once ns
  tf : ∀ b ∈ ts, ¬ g.I b ∧ (∀ m f, find en m = some f → f.alive = true → g.top m ≠ some b) ∧ (w0.heap.size ≤ b ∨ T b)
  nf : ∀ b ∈ ns, (∀ m f, find en m = some f → f.deep = true → b ∉ g.nest m) ∧ (w0.heap.size ≤ b ∨ T b ∨ N b)
  tw : ∀ b ∈ ts, ∀ m f, find en m = some f → f.isTree = true → b ∉ g.nest m
theorem mem_count1 {l m : List Nat} {b : Nat} (h : l.count b ≤ m.count b) (hb : b ∈ l) : b ∈ m := by
  have := List.count_pos_iff.2 hb
  exact List.count_pos_iff.1 (by omega)
theorem Givable.mono {ts ns ts' ns' : List Nat} (h : Givable w0 T N en g ts ns) (ht : ∀ b, ts'.count b ≤ ts.count b) (hn : ∀ b, ns'.count b ≤ ns.count b) : Givable w0 T N en g ts' ns' :=
  ⟨fun b => Nat.le_trans (ht b) (h.t1 b), fun b => Nat.le_trans (hn b) (h.n1 b), fun b hb => h.tf b (mem_count1 (ht b) hb), fun b hb => h.nf b (mem_count1 (hn b) hb), fun b hb => h.tw b (mem_count1 (ht b) hb)⟩
structure Gave (w0 : World) (T N : Nat → Prop) (en : List (Name × Entry)) (g : Gh) (w : World) (new : List (Name × Entry)) (g' : Gh) (ts ns : List Nat) : Prop where
  ms : MS w0 T N (new ++ en) g' w
  le : Le (dom en) g w (dom (new ++ en)) g' w
  imm : g'.I = g.I
  giv : Givable w0 T N (new ++ en) g' ts ns
theorem Gave.refl (h : MS w0 T N en g w) {ts ns : List Nat} (hv : Givable w0 T N en g ts ns) : Gave w0 T N en g w [] g ts ns := ⟨h, Le.refl _ _ _, rfl, hv⟩
theorem CT.give_put (h : MS w0 T N en g w) {mm : Bool} {c : CT} {x : c.den} {v : Value} {ts ns ts' ns' : List Nat} {n : Name} (hg : CT.Gifts g.I w c x v ts ns) (hv : Givable w0 T N en g (ts ++ ts') (cond mm ns [] ++ ns')) (hn : find en n = none) :
    ∃ g', Gave w0 T N en g w (c.give mm n x).2 g' ts' ns' ∧ CellRep (dom ((c.give mm n x).2 ++ en)) g' w (c.give mm n x).1 v := by
  have hmono : Givable w0 T N en g ts' ns' := hv.mono (fun b => by rw [List.count_append]; omega) (fun b => by rw [List.count_append]; omega)
  cases c with
  | sl e =>
    obtain ⟨tp, rfl, hrep, hI⟩ := hg
    have hnd : mm = true → ns.Nodup := by rintro rfl; rw [← once_iff]; intro b; have := hv.n1 b; rw [cond_true, List.count_append] at this; omega
    have hi1 : (g.set n ⟨v, e.len, tp, ns⟩).top n = tp := by simp [Gh.set]
    have hi2 : (g.set n ⟨v, e.len, tp, ns⟩).nest n = ns := by simp [Gh.set]
    have ho1 : ∀ m, m ≠ n → (g.set n ⟨v, e.len, tp, ns⟩).top m = g.top m := fun m hm => by simp [Gh.set, hm]
    have ho2 : ∀ m, m ≠ n → (g.set n ⟨v, e.len, tp, ns⟩).nest m = g.nest m := fun m hm => by simp [Gh.set, hm]
    obtain ⟨hM, hle⟩ := h.put (n := n) (e := .root e mm x) (i := ⟨v, e.len, tp, ns⟩) (fun hd => absurd hn hd) (rootRep_one hrep)
      ⟨by simp [Gh.set], by rw [hi1, hi2]; show rootRep w e x (if n = n then v else g.loc n) tp ns; rw [if_pos rfl]; exact hrep, by rw [hi2]; exact hI, fun hm => by rw [hi2]; exact hnd hm⟩
      (fun _ b hb => by
        obtain ⟨k1, k2, k3⟩ := hv.tf b (List.mem_append_left _ (by simpa using hb))
        exact ⟨k1, fun m f _ hm ha => k2 m f hm ha, k3, fun m f _ hm ht => hv.tw b (List.mem_append_left _ (by simpa using hb)) m f hm ht⟩)
      (fun hdp b hb => by
        obtain rfl : mm = true := hdp
        obtain ⟨k1, k2⟩ := hv.nf b (List.mem_append_left _ hb)
        exact ⟨fun m f _ hm hd => k1 m f hm hd, k2⟩)
    refine ⟨_, ⟨hM, hle, rfl, hmono.t1, hmono.n1, fun b hb => ?_, fun b hb => ?_, fun b hb m f hm ht => ?_⟩, dom_cons.2 (.inl rfl), ?_⟩
    rotate_left 2
    · have hmn : m ≠ n := fun e => by
        subst e
        have hm : find ((m, Entry.root _ mm x) :: en) m = some f := hm
        rw [find_self] at hm; cases hm; cases ht
      rw [ho2 m hmn]
      exact hmono.tw b hb m f (by simpa [CT.give, find_other (Ne.symm hmn)] using hm) ht
    rotate_left
    · obtain ⟨k1, k2, k3⟩ := hmono.tf b hb
      refine ⟨k1, fun m f hm ha => ?_, k3⟩
      by_cases hmn : m = n
      · subst hmn
        rw [hi1]
        intro htp
        have := hv.t1 b
        rw [List.count_append, htp] at this
        have h2 := List.count_pos_iff.2 hb
        simp at this; omega
      · rw [ho1 m hmn]
        exact k2 m f (by simpa [CT.give, find_other (Ne.symm hmn)] using hm) ha
    · obtain ⟨k1, k2⟩ := hmono.nf b hb
      refine ⟨fun m f hm hd => ?_, k2⟩
      by_cases hmn : m = n
      · subst hmn
        obtain rfl : mm = true := by
          have hm : find ((m, Entry.root _ mm x) :: en) m = some f := hm
          rw [find_self] at hm; cases hm; exact hd
        rw [hi2]
        intro hbn
        have := hv.n1 b
        rw [cond_true, List.count_append] at this
        have h2 := List.count_pos_iff.2 hb
        have h3 := List.count_pos_iff.2 hbn
        omega
      · rw [ho2 m hmn]
        exact k1 m f (by simpa [CT.give, find_other (Ne.symm hmn)] using hm) hd
    · show v = (if n = n then v else g.loc n); rw [if_pos rfl]
  | int k => obtain ⟨rfl, rfl, hr⟩ := hg; exact ⟨g, Gave.refl h hmono, CT.cell_rep (c := .int k) hr (by simp)⟩
  | bool => obtain ⟨rfl, rfl, hr⟩ := hg; exact ⟨g, Gave.refl h hmono, CT.cell_rep (c := .bool) hr (by simp)⟩
  | str => obtain ⟨rfl, rfl, hr⟩ := hg; exact ⟨g, Gave.refl h hmono, CT.cell_rep (c := .str) hr (by simp)⟩
  | err => obtain ⟨rfl, rfl, hr⟩ := hg; exact ⟨g, Gave.refl h hmono, CT.cell_rep (c := .err) hr (by simp)⟩
theorem Gave.trans {new new' : List (Name × Entry)} {g1 g2 : Gh} {ts ns ts' ns' : List Nat} (h : Gave w0 T N en g w new g1 ts ns) (k : Gave w0 T N (new ++ en) g1 w new' g2 ts' ns') : Gave w0 T N en g w (new' ++ new) g2 ts' ns' := by
  have e : new' ++ new ++ en = new' ++ (new ++ en) := List.append_assoc _ _ _
  exact ⟨by rw [e]; exact k.ms, by rw [e]; exact h.le.trans k.le, k.imm.trans h.imm, by rw [e]; exact k.giv⟩
theorem CT.give_name {mm : Bool} {n : Name} {c : CT} {x : c.den} : ∀ p ∈ (c.give mm n x).2, p.1 = n := by cases c <;> simp [CT.give]
theorem Cs.Gifts.imm {I I' : Nat → Prop} (hI : ∀ b, I b → I' b) : {c : Cs} → {x : c.den} → {vs : List Value} → {ts ns : List Nat} → Cs.Gifts I w c x vs ts ns → Cs.Gifts I' w c x vs ts ns := by
  have hc : ∀ {c : CT} {x : c.den} {v : Value} {ts ns : List Nat}, CT.Gifts I w c x v ts ns → CT.Gifts I' w c x v ts ns := by
    intro c x v ts ns h
    cases c with
    | sl e => obtain ⟨tp, h1, h2, h3⟩ := h; exact ⟨tp, h1, h2, fun b hb => hI b (h3 b hb)⟩
    | _ => exact h
  intro c
  induction c using Cs.rec (motive_1 := fun _ => True) with
  | one c _ => intro x vs ts ns h; obtain ⟨v, h1, h2⟩ := h; exact ⟨v, h1, hc h2⟩
  | cons c r _ ih => intro x vs ts ns h; obtain ⟨v, vs', t1, t2, n1, n2, h1, h2, h3, h4, h5⟩ := h; exact ⟨v, vs', t1, t2, n1, n2, h1, h2, h3, hc h4, ih h5⟩
  | _ => trivial
theorem Cs.give_put {mm : Bool} : {c : Cs} → {x : c.den} → {vs : List Value} → {ts ns ts' ns' : List Nat} → {n : Name} → {en : List (Name × Entry)} → {g : Gh} → (h : MS w0 T N en g w) → (hg : Cs.Gifts g.I w c x vs ts ns) → (hv : Givable w0 T N en g (ts ++ ts') (cond mm ns [] ++ ns')) →
    (hn : ∀ p ∈ (Cs.give mm n c x).2, find en p.1 = none) → (hd : distinct (Cs.give mm n c x).2 = true) → ∃ g', Gave w0 T N en g w (Cs.give mm n c x).2 g' ts' ns' ∧ All2 (CellRep (dom ((Cs.give mm n c x).2 ++ en)) g' w) (Cs.give mm n c x).1 vs
  | .one c, x, vs, ts, ns, ts', ns', n, en, g, h, hg, hv, hn, hd => by
    obtain ⟨v, rfl, hg⟩ := hg
    cases hs : (c.give mm n x).2 with
    | nil =>
      -- nothing new
      cases c with
      | sl e => simp [CT.give] at hs
      | int k => obtain ⟨rfl, rfl, hr⟩ := hg; exact ⟨g, Gave.refl h (by cases mm <;> simpa using hv), CT.cell_rep (c := .int k) hr (by simp), trivial⟩
      | bool => obtain ⟨rfl, rfl, hr⟩ := hg; exact ⟨g, Gave.refl h (by cases mm <;> simpa using hv), CT.cell_rep (c := .bool) hr (by simp), trivial⟩
      | str => obtain ⟨rfl, rfl, hr⟩ := hg; exact ⟨g, Gave.refl h (by cases mm <;> simpa using hv), CT.cell_rep (c := .str) hr (by simp), trivial⟩
      | err => obtain ⟨rfl, rfl, hr⟩ := hg; exact ⟨g, Gave.refl h (by cases mm <;> simpa using hv), CT.cell_rep (c := .err) hr (by simp), trivial⟩
    | cons p l =>
      have hp : find en n = none := by
        have h1 := hn p (by show p ∈ (c.give mm n x).2; rw [hs]; simp)
        have h2 := CT.give_name (mm := mm) (n := n) (c := c) (x := x) p (by rw [hs]; simp)
        rw [← h2]; exact h1
      obtain ⟨g', k1, k2⟩ := CT.give_put h hg hv hp
      exact ⟨g', k1, k2, trivial⟩
  | .cons c r, x, vs, ts, ns, ts', ns', n, en, g, h, hg, hv, hn, hd => by
    obtain ⟨v, vs', t1, t2, n1, n2, rfl, rfl, rfl, hg1, hg2⟩ := hg
    obtain ⟨d1, d2, d3⟩ := distinct_append (l := (c.give mm n x.1).2) (m := (Cs.give mm (n + 1) r x.2).2) hd
    obtain ⟨g1, k1, k2⟩ := Cs.give_put (n := n + 1) (ts' := t1 ++ ts') (ns' := cond mm n1 [] ++ ns') h hg2 (hv.mono (fun b => by simp only [List.count_append]; omega) (fun b => by cases mm <;> simp only [cond_true, cond_false, List.nil_append, List.count_append] <;> omega)) (fun p hp => hn p (List.mem_append_right _ hp)) d2
    have hg1' : CT.Gifts g1.I w c x.1 v t1 n1 := by rw [k1.imm]; exact hg1
    cases hs : (c.give mm n x.1).2 with
    | nil =>
      have e : (Cs.give mm n (.cons c r) x).2 = (Cs.give mm (n + 1) r x.2).2 := by show (c.give mm n x.1).2 ++ _ = _; rw [hs]; rfl
      have hsc : t1 = [] ∧ n1 = [] ∧ CellRep (dom ((Cs.give mm (n + 1) r x.2).2 ++ en)) g1 w (c.give mm n x.1).1 v := by
        cases c with
        | sl e => simp [CT.give] at hs
        | int k => obtain ⟨rfl, rfl, hr⟩ := hg1; exact ⟨rfl, rfl, CT.cell_rep (c := .int k) hr (by simp)⟩
        | bool => obtain ⟨rfl, rfl, hr⟩ := hg1; exact ⟨rfl, rfl, CT.cell_rep (c := .bool) hr (by simp)⟩
        | str => obtain ⟨rfl, rfl, hr⟩ := hg1; exact ⟨rfl, rfl, CT.cell_rep (c := .str) hr (by simp)⟩
        | err => obtain ⟨rfl, rfl, hr⟩ := hg1; exact ⟨rfl, rfl, CT.cell_rep (c := .err) hr (by simp)⟩
      obtain ⟨rfl, rfl, hcr⟩ := hsc
      rw [e]
      exact ⟨g1, by cases mm <;> simpa using k1, hcr, k2⟩
    | cons p l =>
      have hpn := CT.give_name (mm := mm) (n := n) (c := c) (x := x.1) p (by rw [hs]; simp)
      have hp : find ((Cs.give mm (n + 1) r x.2).2 ++ en) n = none := by
        rw [find_skip]
        · rw [← hpn]; exact hn p (List.mem_append_left _ (by rw [hs]; simp))
        · intro hm; exact d3 p.1 (List.mem_map_of_mem (by rw [hs]; simp)) (hpn.symm ▸ hm)
      obtain ⟨g2, k3, k4⟩ := CT.give_put k1.ms hg1' k1.giv hp
      have e : (Cs.give mm n (.cons c r) x).2 ++ en = (c.give mm n x.1).2 ++ ((Cs.give mm (n + 1) r x.2).2 ++ en) := List.append_assoc _ _ _
      refine ⟨g2, k1.trans k3, ?_, ?_⟩
      · rw [e]; exact k4
      · rw [e]; exact All2.imp (fun _ _ => CellRep.mono k3.le) k2
theorem CT.giveF_put (h : MS w0 T N en g w) {c : CT} {x : c.den} {v : Value} {F ts' ns' : List Nat} {n : Name} (hg : CT.Rep w c x v F) (hI : ∀ b ∈ F, g.I b) (hv : Givable w0 T N en g ts' (F ++ ns')) (hn : find en n = none) :
    ∃ g', Gave w0 T N en g w (c.giveF n x).2 g' ts' ns' ∧ CellRep (dom ((c.giveF n x).2 ++ en)) g' w (c.giveF n x).1 v := by
  have hmono : Givable w0 T N en g ts' ns' := hv.mono (fun b => Nat.le_refl _) (fun b => by rw [List.count_append]; omega)
  cases c with
  | sl e =>
    have hnd : F.Nodup := by rw [← once_iff]; intro b; have := hv.n1 b; rw [List.count_append] at this; omega
    have hi1 : (g.set n ⟨v, e.len, none, F⟩).top n = none := by simp [Gh.set]
    have hi2 : (g.set n ⟨v, e.len, none, F⟩).nest n = F := by simp [Gh.set]
    have ho1 : ∀ m, m ≠ n → (g.set n ⟨v, e.len, none, F⟩).top m = g.top m := fun m hm => by simp [Gh.set, hm]
    have ho2 : ∀ m, m ≠ n → (g.set n ⟨v, e.len, none, F⟩).nest m = g.nest m := fun m hm => by simp [Gh.set, hm]
    have hone : v.oneCell' = true := by obtain ⟨ad, cap, rfl⟩ := sl_shape hg; rfl
    obtain ⟨hM, hle⟩ := h.put (n := n) (e := .frz e x) (i := ⟨v, e.len, none, F⟩) (fun hd => absurd hn hd) hone
      ⟨by simp [Gh.set], hi1, by rw [hi2]; show CT.Rep w (.sl e) x (if n = n then v else g.loc n) F; rw [if_pos rfl]; exact hg, by rw [hi2]; exact hI, by rw [hi2]; exact hnd⟩
      (fun ha => by cases ha)
      (fun hdp b hb => by
        obtain ⟨k1, k2⟩ := hv.nf b (List.mem_append_left _ hb)
        exact ⟨fun m f _ hm hd => k1 m f hm hd, k2⟩)
    refine ⟨_, ⟨hM, hle, rfl, hmono.t1, hmono.n1, fun b hb => ?_, fun b hb => ?_, fun b hb m f hm ht => ?_⟩, dom_cons.2 (.inl rfl), ?_⟩
    rotate_left 2
    · have hmn : m ≠ n := fun e => by
        subst e
        have hm : find ((m, Entry.frz _ x) :: en) m = some f := hm
        rw [find_self] at hm; cases hm; cases ht
      rw [ho2 m hmn]
      exact hmono.tw b hb m f (by simpa [CT.giveF, find_other (Ne.symm hmn)] using hm) ht
    rotate_left
    · obtain ⟨k1, k2, k3⟩ := hmono.tf b hb
      refine ⟨k1, fun m f hm ha => ?_, k3⟩
      by_cases hmn : m = n
      · subst hmn; rw [hi1]; intro htp; cases htp
      · rw [ho1 m hmn]
        exact k2 m f (by simpa [CT.giveF, find_other (Ne.symm hmn)] using hm) ha
    · obtain ⟨k1, k2⟩ := hmono.nf b hb
      refine ⟨fun m f hm hd => ?_, k2⟩
      by_cases hmn : m = n
      · subst hmn
        rw [hi2]
        intro hbn
        have := hv.n1 b
        rw [List.count_append] at this
        have h2 := List.count_pos_iff.2 hb
        have h3 := List.count_pos_iff.2 hbn
        omega
      · rw [ho2 m hmn]
        exact k1 m f (by simpa [CT.giveF, find_other (Ne.symm hmn)] using hm) hd
    · show v = (if n = n then v else g.loc n); rw [if_pos rfl]
  | int k => exact ⟨g, Gave.refl h hmono, CT.cell_rep (c := .int k) hg hI⟩
  | bool => exact ⟨g, Gave.refl h hmono, CT.cell_rep (c := .bool) hg hI⟩
  | str => exact ⟨g, Gave.refl h hmono, CT.cell_rep (c := .str) hg hI⟩
  | err => exact ⟨g, Gave.refl h hmono, CT.cell_rep (c := .err) hg hI⟩
theorem CT.giveF_any (h : MS w0 T N en g w) {c : CT} {x : c.den} {v : Value} {F ts' ns' : List Nat} {n : Name} (hg : CT.Rep w c x v F) (hI : ∀ b ∈ F, g.I b) (hv : Givable w0 T N en g ts' (F ++ ns')) (hn : ∀ p ∈ (c.giveF n x).2, find en p.1 = none) :
    ∃ g', Gave w0 T N en g w (c.giveF n x).2 g' ts' ns' ∧ CellRep (dom ((c.giveF n x).2 ++ en)) g' w (c.giveF n x).1 v := by
  have hmono : Givable w0 T N en g ts' ns' := hv.mono (fun b => Nat.le_refl _) (fun b => by rw [List.count_append]; omega)
  cases c with
  | sl e => exact CT.giveF_put h hg hI hv (hn (n, .frz e x) (by simp [CT.giveF]))
  | int k => exact ⟨g, Gave.refl h hmono, CT.cell_rep (c := .int k) hg hI⟩
  | bool => exact ⟨g, Gave.refl h hmono, CT.cell_rep (c := .bool) hg hI⟩
  | str => exact ⟨g, Gave.refl h hmono, CT.cell_rep (c := .str) hg hI⟩
  | err => exact ⟨g, Gave.refl h hmono, CT.cell_rep (c := .err) hg hI⟩
theorem Cs.giveF_put : {c : Cs} → {x : c.den} → {vs : List Value} → {F ts' ns' : List Nat} → {n : Name} → {en : List (Name × Entry)} → {g : Gh} → (h : MS w0 T N en g w) → (hg : Cs.Rep w c x vs F) → (hI : ∀ b ∈ F, g.I b) → (hv : Givable w0 T N en g ts' (F ++ ns')) →
    (hn : ∀ p ∈ (Cs.giveF n c x).2, find en p.1 = none) → (hd : distinct (Cs.giveF n c x).2 = true) → ∃ g', Gave w0 T N en g w (Cs.giveF n c x).2 g' ts' ns' ∧ All2 (CellRep (dom ((Cs.giveF n c x).2 ++ en)) g' w) (Cs.giveF n c x).1 vs
  | .one c, x, vs, F, ts', ns', n, en, g, h, hg, hI, hv, hn, hd => by
    simp only [Cs.Rep] at hg
    obtain ⟨v, rfl, hg⟩ := hg
    obtain ⟨g', k1, k2⟩ := CT.giveF_any h hg hI hv hn
    exact ⟨g', k1, k2, trivial⟩
  | .cons c r, x, vs, F, ts', ns', n, en, g, h, hg, hI, hv, hn, hd => by
    simp only [Cs.Rep] at hg
    obtain ⟨v, vs', F1, F2, rfl, rfl, hg1, hg2⟩ := hg
    obtain ⟨d1, d2, d3⟩ := distinct_append (l := (c.giveF n x.1).2) (m := (Cs.giveF (n + 1) r x.2).2) hd
    obtain ⟨g1, k1, k2⟩ := Cs.giveF_put (n := n + 1) (ts' := ts') (ns' := F1 ++ ns') h hg2 (fun b hb => hI b (List.mem_append_right _ hb)) (hv.mono (fun b => Nat.le_refl _) (fun b => by simp only [List.count_append]; omega)) (fun p hp => hn p (List.mem_append_right _ hp)) d2
    obtain ⟨g2, k3, k4⟩ := CT.giveF_any (n := n) k1.ms hg1 (fun b hb => by rw [k1.imm]; exact hI b (List.mem_append_left _ hb)) k1.giv (fun p hp => by
      rw [find_skip (d3 p.1 (List.mem_map_of_mem hp))]; exact hn p (List.mem_append_left _ hp))
    have e : (Cs.giveF n (.cons c r) x).2 ++ en = (c.giveF n x.1).2 ++ ((Cs.giveF (n + 1) r x.2).2 ++ en) := List.append_assoc _ _ _
    refine ⟨g2, k1.trans k3, ?_, ?_⟩
    · rw [e]; exact k4
    · rw [e]; exact All2.imp (fun _ _ => CellRep.mono k3.le) k2
theorem box_put (h : MS w0 T N en g w) {n : Name} {b : Nat} {us : List Value} {cs : List Cell} {ts ns : List Nat} (hb : ownBlock w b us) (hc : All2 (CellRep (dom en) g w) cs us) (hv : Givable w0 T N en g (b :: ts) ns) (hn : dom en n → g.loc n = .pointer (some ⟨b, 0, none⟩)) (hf : ∀ e, find en n = some e → e.alive = false) :
    ∃ g', Gave w0 T N en g w [(n, .box cs)] g' ts ns ∧ g'.loc n = .pointer (some ⟨b, 0, none⟩) := by
  have hi1 : (g.set n ⟨.pointer (some ⟨b, 0, none⟩), g.esz n, some b, []⟩).top n = some b := by simp [Gh.set]
  have hi2 : (g.set n ⟨.pointer (some ⟨b, 0, none⟩), g.esz n, some b, []⟩).nest n = [] := by simp [Gh.set]
  have ho1 : ∀ m, m ≠ n → (g.set n ⟨.pointer (some ⟨b, 0, none⟩), g.esz n, some b, []⟩).top m = g.top m := fun m hm => by simp [Gh.set, hm]
  have ho2 : ∀ m, m ≠ n → (g.set n ⟨.pointer (some ⟨b, 0, none⟩), g.esz n, some b, []⟩).nest m = g.nest m := fun m hm => by simp [Gh.set, hm]
  have hle0 := Gh.set_le (en := en) (g := g) (w := w) (n := n) (.box cs) ⟨.pointer (some ⟨b, 0, none⟩), g.esz n, some b, []⟩ (fun hd => ⟨(hn hd).symm, rfl⟩)
  obtain ⟨hM, hle⟩ := h.put (n := n) (e := .box cs) (i := ⟨.pointer (some ⟨b, 0, none⟩), g.esz n, some b, []⟩) (fun hd => ⟨(hn hd).symm, rfl⟩) rfl
    ⟨b, us, hi1, by simp [Gh.set], hb, All2.imp (fun _ _ => CellRep.mono hle0) hc⟩
    (fun _ b' hb' => by
      cases hb'
      obtain ⟨k1, k2, k3⟩ := hv.tf b List.mem_cons_self
      exact ⟨k1, fun m f _ hm ha => k2 m f hm ha, k3, fun m f _ hm ht => hv.tw b List.mem_cons_self m f hm ht⟩)
    (fun hd => by cases hd)
  have hmono : Givable w0 T N en g ts ns := hv.mono (fun c => by rw [List.count_cons]; omega) (fun _ => Nat.le_refl _)
  refine ⟨_, ⟨hM, hle, rfl, hmono.t1, hmono.n1, fun c hc => ?_, fun c hc => ?_, fun c hc m f hm ht => ?_⟩, by simp [Gh.set]⟩
  rotate_left 2
  · have hmn : m ≠ n := fun e => by
      subst e
      have hm : find ((m, Entry.box cs) :: en) m = some f := hm
      rw [find_self] at hm; cases hm; cases ht
    rw [ho2 m hmn]
    exact hmono.tw c hc m f (by simpa [find_other (Ne.symm hmn)] using hm) ht
  · obtain ⟨k1, k2, k3⟩ := hmono.tf c hc
    refine ⟨k1, fun m f hm ha => ?_, k3⟩
    by_cases hmn : m = n
    · subst hmn
      rw [hi1]
      intro he; cases he
      have := hv.t1 b
      rw [List.count_cons_self] at this
      have h2 := List.count_pos_iff.2 hc
      omega
    · rw [ho1 m hmn]; exact k2 m f (by simpa [find_other (Ne.symm hmn)] using hm) ha
  · obtain ⟨k1, k2⟩ := hmono.nf c hc
    refine ⟨fun m f hm hd => ?_, k2⟩
    by_cases hmn : m = n
    · subst hmn; rw [hi2]; simp
    · rw [ho2 m hmn]; exact k1 m f (by simpa [find_other (Ne.symm hmn)] using hm) hd
end Go.V
namespace Go.V
set_option linter.unusedVariables false
set_option linter.unusedSimpArgs false
variable {w0 : World} {T N : Nat → Prop} {en en' : List (Name × Entry)} {g g' : Gh} {w : World}

def mvO : Bool → Option Bool | true => some true | false => none
def CsIn (I : Nat → Prop) (w : World) (own : Option Bool) (c : Cs) (x : c.den) (us : List Value) (ts ns : List Nat) : Prop :=
  (∃ m ns', own = some m ∧ Cs.Gifts I w c x us ts ns' ∧ (m = true → ns' = ns)) ∨ (own = none ∧ ts = [] ∧ ns = [] ∧ ∃ F, Cs.Rep w c x us F ∧ ∀ b ∈ F, I b)
def ArgsAt (I : Nat → Prop) (w : World) : (ps : List PSig) → Tup (psCs ps) → List Value → List Nat → List Nat → Prop
  | [], _, vs, ts, ns => vs = [] ∧ ts = [] ∧ ns = []
  | .val agg c mv :: ps, x, vs, ts, ns => ∃ v vs' us t1 t2 n1 n2, vs = v :: vs' ∧ isAgg agg v us ∧ ts = t1 ++ t2 ∧ ns = n1 ++ n2 ∧ CsIn I w (mvO mv) c (Tup.hd c (psCs ps) x) us t1 n1 ∧ ArgsAt I w ps (Tup.tl c (psCs ps) x) vs' t2 n2
  | .ptr c own :: ps, x, vs, ts, ns => ∃ b vs' us t1 t2 n1 n2, vs = .pointer (some ⟨b, 0, none⟩) :: vs' ∧ ownBlock w b us ∧ ts = b :: (t1 ++ t2) ∧ ns = n1 ++ n2 ∧ CsIn I w own c (Tup.hd c (psCs ps) x) us t1 n1 ∧ ArgsAt I w ps (Tup.tl c (psCs ps) x) vs' t2 n2
theorem avOf_rep {D : Name → Prop} {agg : Bool} {cs : List Cell} {v : Value} {us : List Value} (h : All2 (CellRep D g w) cs us) (ha : isAgg agg v us) : AVRep D g w (avOf agg cs) v := by
  rcases ha with ⟨rfl, rfl⟩ | ⟨rfl, rfl⟩
  · cases cs with
    | nil => exact h.elim
    | cons c cs => cases cs with
      | nil => exact h.1
      | cons _ _ => exact h.2.elim
  · have : avOf true cs = .agg cs := by cases cs <;> rfl
    rw [this]; exact ⟨_, rfl, h⟩
theorem giveC_put {own : Option Bool} {c : Cs} {x : c.den} {vs : List Value} {ts ns ts' ns' : List Nat} {n : Name} (h : MS w0 T N en g w) (hg : CsIn g.I w own c x vs ts ns) (hv : Givable w0 T N en g (ts ++ ts') (ns ++ ns'))
    (hn : ∀ p ∈ (giveC own n c x).2, find en p.1 = none) (hd : distinct (giveC own n c x).2 = true) : ∃ g', Gave w0 T N en g w (giveC own n c x).2 g' ts' ns' ∧ All2 (CellRep (dom ((giveC own n c x).2 ++ en)) g' w) (giveC own n c x).1 vs := by
  rcases hg with ⟨m, ns1, rfl, hg, hm⟩ | ⟨rfl, rfl, rfl, F, hF, hI⟩
  · refine Cs.give_put h hg ?_ hn hd
    cases m with
    | true => rw [hm rfl]; exact hv
    | false => exact hv.mono (fun b => Nat.le_refl _) (fun b => by simp only [cond_false, List.nil_append, List.count_append]; omega)
  · exact ⟨g, Gave.refl h (by simpa using hv), Cs.cells_rep hF hI⟩
def PLoc (D : Name → Prop) (g : Gh) : Nat → List PSig → List Value → Prop
  | _, [], _ => True
  | _, _ :: _, [] => False
  | i, .val .. :: ps, _ :: vs => PLoc D g (i + 1) ps vs
  | i, .ptr .. :: ps, v :: vs => (D (64 * i + 1) ∧ g.loc (64 * i + 1) = v) ∧ PLoc D g (i + 1) ps vs
theorem PLoc.mono {D D' : Name → Prop} {w' : World} (h : Le D g w D' g' w') : ∀ {i : Nat} {ps : List PSig} {vs : List Value}, PLoc D g i ps vs → PLoc D' g' i ps vs
  | _, [], _, _ => trivial
  | i, .val .. :: ps, v :: vs, k => PLoc.mono (ps := ps) (vs := vs) h k
  | i, .ptr .. :: ps, v :: vs, ⟨⟨k1, k2⟩, k⟩ => ⟨⟨h.dom _ k1, (h.loc _ k1).trans k2⟩, PLoc.mono h k⟩
  | _, .val .. :: _, [], k => k
  | _, .ptr .. :: _, [], k => k
def Slots (D : Name → Prop) (g : Gh) (w : World) (tm : List (Nat × AV)) (i : Nat) (vs : List Value) : Prop :=
  ∀ t, find tm t = none ∨ ∃ k v x, t = i + k ∧ vs[k]? = some v ∧ find tm t = some x ∧ AVRep D g w x v
theorem Slots.cons {D D' : Name → Prop} {tm : List (Nat × AV)} {i : Nat} {vs : List Value} {v : Value} {x : AV} (h : Slots D g w tm (i + 1) vs) (hle : Le D g w D' g' w) (hx : AVRep D' g' w x v) : Slots D' g' w ((i, x) :: tm) i (v :: vs) := by
  intro t
  rw [find_cons]
  by_cases hit : i = t
  · subst hit
    exact .inr ⟨0, v, x, rfl, rfl, by rw [if_pos rfl], hx⟩
  · rw [if_neg hit]
    rcases h t with h | ⟨k, u, y, h1, h2, h3, h4⟩
    · exact .inl h
    · exact .inr ⟨k + 1, u, y, by omega, by simpa using h2, h3, h4.mono hle⟩
theorem entry_val {i : Nat} {agg : Bool} {c : Cs} {mv : Bool} {ps : List PSig} {x : Tup (psCs (.val agg c mv :: ps))} :
    entry i (.val agg c mv :: ps) x = ((i, avOf agg (giveC (mvO mv) (64 * i + 1) c (Tup.hd c (psCs ps) x)).1) :: (entry (i + 1) ps (Tup.tl c (psCs ps) x)).1, (giveC (mvO mv) (64 * i + 1) c (Tup.hd c (psCs ps) x)).2 ++ (entry (i + 1) ps (Tup.tl c (psCs ps) x)).2) := by
  cases mv <;> rfl
theorem entry_ptr {i : Nat} {c : Cs} {own : Option Bool} {ps : List PSig} {x : Tup (psCs (.ptr c own :: ps))} :
    entry i (.ptr c own :: ps) x = ((i, .cell (.box (64 * i + 1) 0)) :: (entry (i + 1) ps (Tup.tl c (psCs ps) x)).1, (64 * i + 1, .box (giveC own (64 * i + 2) c (Tup.hd c (psCs ps) x)).1) :: ((giveC own (64 * i + 2) c (Tup.hd c (psCs ps) x)).2 ++ (entry (i + 1) ps (Tup.tl c (psCs ps) x)).2)) := rfl
theorem Gave.to_nil {new : List (Name × Entry)} {ts ns : List Nat} (h : Gave w0 T N [] g w new g' ts ns) : MS w0 T N new g' w := by have := h.ms; rwa [List.append_nil] at this
theorem CsIn.imm {I I' : Nat → Prop} (hI : ∀ b, I b → I' b) {own : Option Bool} {c : Cs} {x : c.den} {us : List Value} {ts ns : List Nat} (h : CsIn I w own c x us ts ns) : CsIn I' w own c x us ts ns := by
  rcases h with ⟨m, ns', h1, h2, h3⟩ | ⟨h1, h2, h3, F, h4, h5⟩
  · exact .inl ⟨m, ns', h1, h2.imm hI, h3⟩
  · exact .inr ⟨h1, h2, h3, F, h4, fun b hb => hI b (h5 b hb)⟩
theorem entry_gave (h0 : MS w0 T N [] g w) : ∀ (ps : List PSig) (i : Nat) (x : Tup (psCs ps)) (vs : List Value) (ts ns ts' ns' : List Nat), Givable w0 T N [] g (ts ++ ts') (ns ++ ns') → ArgsAt g.I w ps x vs ts ns → distinct (entry i ps x).2 = true →
    ∃ g', Gave w0 T N [] g w (entry i ps x).2 g' ts' ns' ∧ Slots (dom (entry i ps x).2) g' w (entry i ps x).1 i vs ∧ PLoc (dom (entry i ps x).2) g' i ps vs
  | [], i, x, vs, ts, ns, ts', ns', hv, ha, hd => by
    obtain ⟨rfl, rfl, rfl⟩ := ha
    exact ⟨g, Gave.refl h0 (by simpa using hv), fun t => .inl rfl, trivial⟩
  | .val agg c mv :: ps, i, x, vs, ts, ns, ts', ns', hv, ha, hd => by
    obtain ⟨v, vs', us, t1, t2, n1, n2, rfl, hag, rfl, rfl, hin, ha⟩ := ha
    rw [entry_val] at hd ⊢
    obtain ⟨d1, d2, d3⟩ := distinct_append hd
    obtain ⟨g1, k1, k2, k3⟩ := entry_gave h0 ps (i + 1) (Tup.tl c (psCs ps) x) vs' t2 n2 (t1 ++ ts') (n1 ++ ns') (hv.mono (fun b => by simp only [List.count_append]; omega) (fun b => by simp only [List.count_append]; omega)) ha d2
    obtain ⟨g2, k4, k5⟩ := giveC_put (n := 64 * i + 1) k1.ms (hin.imm fun b hb => by rw [k1.imm]; exact hb) k1.giv (fun p hp => by
      rw [List.append_nil]
      cases hf : find (entry (i + 1) ps (Tup.tl c (psCs ps) x)).2 p.1 with
      | none => rfl
      | some y => exact absurd (find_in.2 (by rw [hf]; simp)) (d3 p.1 (List.mem_map_of_mem hp))) d1
    have kle := k4.le
    simp only [List.append_nil] at kle k5
    refine ⟨g2, k1.trans k4, k2.cons kle (avOf_rep k5 hag), ?_⟩
    exact PLoc.mono (ps := ps) (vs := vs') kle k3
  | .ptr c own :: ps, i, x, vs, ts, ns, ts', ns', hv, ha, hd => by
    obtain ⟨b, vs', us, t1, t2, n1, n2, rfl, hob, rfl, rfl, hin, ha⟩ := ha
    rw [entry_ptr] at hd ⊢
    obtain ⟨d0, hd⟩ := distinct_cons hd
    obtain ⟨d1, d2, d3⟩ := distinct_append hd
    obtain ⟨g1, k1, k2, k3⟩ := entry_gave h0 ps (i + 1) (Tup.tl c (psCs ps) x) vs' t2 n2 (t1 ++ (b :: ts')) (n1 ++ ns') (hv.mono (fun b' => by simp only [List.count_append, List.count_cons, List.cons_append]; omega) (fun b' => by simp only [List.count_append]; omega)) ha d2
    obtain ⟨g2, k4, k5⟩ := giveC_put (n := 64 * i + 2) k1.ms (hin.imm fun b hb => by rw [k1.imm]; exact hb) k1.giv (fun p hp => by
      rw [List.append_nil]
      cases hf : find (entry (i + 1) ps (Tup.tl c (psCs ps) x)).2 p.1 with
      | none => rfl
      | some y => exact absurd (find_in.2 (by rw [hf]; simp)) (d3 p.1 (List.mem_map_of_mem hp))) d1
    have kle := k4.le
    have k6 := k1.trans k4
    have hfree : find ((giveC own (64 * i + 2) c (Tup.hd c (psCs ps) x)).2 ++ (entry (i + 1) ps (Tup.tl c (psCs ps) x)).2 ++ []) (64 * i + 1) = none := by
      rw [List.append_nil]
      cases hf : find ((giveC own (64 * i + 2) c (Tup.hd c (psCs ps) x)).2 ++ (entry (i + 1) ps (Tup.tl c (psCs ps) x)).2) (64 * i + 1) with
      | none => rfl
      | some y => exact absurd (find_in.2 (by rw [hf]; simp)) d0
    obtain ⟨g3, k7, k8⟩ := box_put k6.ms hob (by simpa using k5) k6.giv (fun hd => absurd hfree hd) (fun e he => by rw [hfree] at he; cases he)
    have kle2 := k7.le
    simp only [List.append_nil] at kle kle2
    refine ⟨g3, k6.trans k7, Slots.cons k2 (kle.trans kle2) ⟨dom_cons.2 (.inl rfl), b, k8, rfl⟩, ⟨dom_cons.2 (.inl rfl), k8⟩, ?_⟩
    exact PLoc.mono (ps := ps) (vs := vs') (kle.trans kle2) k3
end Go.V
namespace Go.V
set_option linter.unusedVariables false
set_option linter.unusedSimpArgs false
variable {w0 : World} {T N : Nat → Prop} {en en' : List (Name × Entry)} {g g' : Gh} {w : World} {I : Nat → Prop}

def UsedAny (en : List (Name × Entry)) (used : List (Name × Entry)) : Prop :=
  ∀ p ∈ used, (p.2 = .gone ∧ ∃ e m xs, find en p.1 = some (.root e m xs)) ∨ (p.2 = .gone ∧ ∃ cs, find en p.1 = some (.box cs)) ∨ (∃ e m xs, find en p.1 = some (.root e m xs) ∧ p.2 = .fwd e xs) ∨ (∃ e xs, find en p.1 = some (.frz e xs) ∧ (p.2 = .gone ∨ p.2 = .fwd e xs))
def tops1 (g : Gh) (p : Name × Entry) : List Nat := match p.2 with | .gone => (g.top p.1).toList | _ => []
def nests1 (en : List (Name × Entry)) (g : Gh) (p : Name × Entry) : List Nat := match p.2 with | .gone => (match find en p.1 with | some (.root _ true _) => g.nest p.1 | some (.frz _ _) => g.nest p.1 | _ => []) | _ => []
def tsOf (g : Gh) (used : List (Name × Entry)) : List Nat := used.flatMap (tops1 g)
def nsOf (en : List (Name × Entry)) (g : Gh) (used : List (Name × Entry)) : List Nat := used.flatMap (nests1 en g)
theorem agg_cells {D : Name → Prop} {agg : Bool} {x : AV} {v : Value} (h : AVRep D g w x v) (ho : okAgg agg x = true) : ∃ us, isAgg agg v us ∧ All2 (CellRep D g w) x.cells us := by
  cases x with
  | cell c => cases agg with
    | true => cases ho
    | false => exact ⟨[v], .inl ⟨rfl, rfl⟩, h, trivial⟩
  | agg cs => cases agg with
    | false => cases ho
    | true => obtain ⟨vs, rfl, k⟩ := h; exact ⟨vs.toList, .inr ⟨rfl, rfl⟩, k⟩
  | tup l => cases agg <;> cases ho
theorem used_gone (hm : Mem en g w) : ∀ {used : List (Name × Entry)}, usedOk en true false used → tsOf g used = (used.map (·.1)).flatMap (fun n => (g.top n).toList) ∧ nsOf en g used = (used.map (·.1)).flatMap g.nest ∧ UsedAny en used ∧ ∀ b ∈ nsOf en g used, g.I b
  | [], _ => ⟨rfl, rfl, fun p hp => by simp at hp, by simp [nsOf]⟩
  | p :: used, h => by
    obtain ⟨k1, k2, k3, k4⟩ := used_gone hm (used := used) fun q hq => h q (List.mem_cons_of_mem _ hq)
    obtain ⟨e, m, xs, h1, h2, h3⟩ | ⟨h0, _⟩ := h p List.mem_cons_self
    rotate_left
    · cases h0
    obtain rfl := h2 rfl
    have h3 : p.2 = .gone := h3
    obtain ⟨_, _, hI, _⟩ := root_of hm h1
    refine ⟨?_, ?_, fun q hq => ?_, fun b hb => ?_⟩
    · unfold tsOf at k1 ⊢; rw [List.flatMap_cons, k1]; simp [tops1, h3]
    · unfold nsOf at k2 ⊢; rw [List.flatMap_cons, k2]; simp [nests1, h3, h1]
    · rcases List.mem_cons.1 hq with rfl | hq
      · exact .inl ⟨h3, e, true, xs, h1⟩
      · exact k3 q hq
    · unfold nsOf at hb k4
      rw [List.flatMap_cons] at hb
      rcases List.mem_append.1 hb with hb | hb
      · simp [nests1, h3, h1] at hb; exact hI b hb
      · exact k4 b hb
theorem used_fwd : ∀ {used : List (Name × Entry)}, usedOk en false true used → tsOf g used = [] ∧ nsOf en g used = [] ∧ UsedAny en used
  | [], _ => ⟨rfl, rfl, fun p hp => by simp at hp⟩
  | p :: used, h => by
    obtain ⟨k1, k2, k3⟩ := used_fwd (used := used) fun q hq => h q (List.mem_cons_of_mem _ hq)
    obtain ⟨e, m, xs, h1, h2, h3⟩ | ⟨_, e, xs, h1, h3⟩ := h p List.mem_cons_self
    rotate_left
    · refine ⟨?_, ?_, fun q hq => ?_⟩
      · unfold tsOf at k1 ⊢; rw [List.flatMap_cons, k1]; simp [tops1, h3]
      · unfold nsOf at k2 ⊢; rw [List.flatMap_cons, k2]; simp [nests1, h3]
      · rcases List.mem_cons.1 hq with rfl | hq
        · exact .inr (.inr (.inr ⟨e, xs, h1, .inr h3⟩))
        · exact k3 q hq
    have h3 : p.2 = .fwd e xs := h3
    refine ⟨?_, ?_, fun q hq => ?_⟩
    · unfold tsOf at k1 ⊢; rw [List.flatMap_cons, k1]; simp [tops1, h3]
    · unfold nsOf at k2 ⊢; rw [List.flatMap_cons, k2]; simp [nests1, h3]
    · rcases List.mem_cons.1 hq with rfl | hq
      · exact .inr (.inr (.inl ⟨e, m, xs, h1, h3⟩))
      · exact k3 q hq
theorem CT.own_gifts (hI : ∀ b, g.I b → I b) {c : CT} {x : c.den} {v : Value} {ns : List Name} (h : CT.Own false g w c x v ns) (hn : ∀ b ∈ ns.flatMap g.nest, g.I b) : CT.Gifts I w c x v (ns.flatMap fun n => (g.top n).toList) (ns.flatMap g.nest) := by
  cases c with
  | sl e =>
    rcases h with ⟨rfl, rfl, rfl⟩ | ⟨n, rfl, rfl, h⟩
    · exact ⟨none, rfl, .inl ⟨rfl, rfl, rfl, rfl⟩, by simp⟩
    · exact ⟨g.top n, by simp, by simpa using h.resolve_right (fun h => by cases h.1), fun b hb => hI b (hn b hb)⟩
  | int => obtain ⟨rfl, h⟩ := h; exact ⟨rfl, rfl, h⟩
  | bool => obtain ⟨rfl, h⟩ := h; exact ⟨rfl, rfl, h⟩
  | str => obtain ⟨rfl, h⟩ := h; exact ⟨rfl, rfl, h⟩
  | err => obtain ⟨rfl, h⟩ := h; exact ⟨rfl, rfl, h⟩
theorem Cs.own_gifts (hI : ∀ b, g.I b → I b) : {c : Cs} → {x : c.den} → {us : List Value} → {ns : List Name} → Cs.Own false g w c x us ns → (∀ b ∈ ns.flatMap g.nest, g.I b) → Cs.Gifts I w c x us (ns.flatMap fun n => (g.top n).toList) (ns.flatMap g.nest)
  | .one c, x, us, ns, h, hn => by obtain ⟨v, rfl, h⟩ := h; exact ⟨v, rfl, CT.own_gifts hI h hn⟩
  | .cons c r, x, us, ns, h, hn => by
    obtain ⟨v, vs', n1, n2, rfl, rfl, h1, h2⟩ := h
    rw [List.flatMap_append, List.flatMap_append]
    rw [List.flatMap_append] at hn
    exact ⟨v, vs', _, _, _, _, rfl, rfl, rfl, CT.own_gifts hI h1 fun b hb => hn b (List.mem_append_left _ hb), Cs.own_gifts hI h2 fun b hb => hn b (List.mem_append_right _ hb)⟩
structure Still (en : List (Name × Entry)) (g : Gh) (I : Nat → Prop) (used : List (Name × Entry)) (ro : List Name) : Prop where
  old : ∀ b, g.I b → I b
  fwd : ∀ p ∈ used, ∀ e xs, p.2 = .fwd e xs → ∀ b, g.top p.1 = some b → I b
  lent : ∀ n ∈ ro, ∀ f b, find en n = some f → f.alive = true → g.top n = some b → I b
theorem UsedAny.append {u v : List (Name × Entry)} (h : UsedAny en u) (k : UsedAny en v) : UsedAny en (u ++ v) := fun p hp => (List.mem_append.1 hp).elim (h p) (k p)
theorem CT.into_top (hI : ∀ b, g.I b → I b) (hm : Mem en g w) {c : CT} {x : Cell} {v : Value} {y : c.den × List (Name × Entry)} {L : List Name} (hc : CellRep (dom en) g w x v) (hr : (c.into false false x).Runs (find en) y L) :
    ∃ ns, CT.Gifts I w c y.1 v (tsOf g y.2) ns ∧ UsedAny en y.2 := by
  cases hs : c.isSl with
  | true =>
    cases c with
    | sl e =>
      obtain ⟨a, L1, L2, _, h1, h2⟩ := Rd.runs_bind (show (takeS e x).Runs (find en) y L from hr)
      obtain ⟨rfl, _⟩ := h2
      rcases dst_sound hm hc h1 with ⟨rfl, rfl⟩ | ⟨xs, r, m, F, rfl, ⟨ys, hn⟩, hrep, hcnt⟩
      · exact ⟨[], ⟨none, rfl, .inl ⟨rfl, rfl, rfl, rfl⟩, by simp⟩, by intro p hp; simp at hp⟩
      · obtain ⟨_, _, hnI, _⟩ := root_of hm hn
        refine ⟨F, ⟨g.top r, by simp [tsOf, tops1], hrep, fun b hb => hI b (hnI b ?_)⟩, fun p hp => ?_⟩
        · have h1 := List.count_pos_iff.2 hb
          have h2 := hcnt b
          exact List.count_pos_iff.1 (by omega)
        · obtain rfl := List.mem_singleton.1 hp
          exact .inl ⟨rfl, e, m, ys, hn⟩
    | int => simp [CT.isSl] at hs
    | bool => simp [CT.isSl] at hs
    | str => simp [CT.isSl] at hs
    | err => simp [CT.isSl] at hs
  | false =>
    obtain ⟨h1, L', h2⟩ := CT.into_scalar hs hr
    obtain ⟨F, hF, _⟩ := CT.read_sound hm hc h2
    have ho := CT.Own_of_rep (kp := false) (g := g) hs ⟨F, hF⟩
    rw [h1]
    exact ⟨[], CT.own_gifts hI ho (by simp), by intro p hp; simp at hp⟩
theorem Cs.into_top (hI : ∀ b, g.I b → I b) (hm : Mem en g w) : {e : Cs} → {xs : List Cell} → {vs : List Value} → {y : e.den × List (Name × Entry)} → {L : List Name} → All2 (CellRep (dom en) g w) xs vs → (e.into false false xs).Runs (find en) y L →
    ∃ ns, Cs.Gifts I w e y.1 vs (tsOf g y.2) ns ∧ UsedAny en y.2
  | .one c, [], _, _, _, _, hr => hr.elim
  | .one c, [x], [v], y, L, hc, hr => by
    obtain ⟨ns, h1, h2⟩ := CT.into_top hI hm hc.1 hr
    exact ⟨ns, ⟨v, rfl, h1⟩, h2⟩
  | .one c, _ :: _ :: _, _, _, _, _, hr => hr.elim
  | .cons c r, [], _, _, _, _, hr => hr.elim
  | .cons c r, x :: xs, v :: vs, y, L, hc, hr => by
    simp only [Cs.into] at hr
    obtain ⟨a, L1, L2, rfl, h1, hr⟩ := Rd.runs_bind hr
    obtain ⟨b, L3, L4, rfl, h2, hr⟩ := Rd.runs_bind hr
    obtain ⟨rfl, _⟩ := hr
    obtain ⟨n1, k1, k2⟩ := CT.into_top hI hm hc.1 h1
    obtain ⟨n2, k3, k4⟩ := Cs.into_top hI hm hc.2 h2
    exact ⟨n1 ++ n2, ⟨v, vs, tsOf g a.2, tsOf g b.2, n1, n2, rfl, List.flatMap_append, rfl, k1, k3⟩, k2.append k4⟩
theorem into_csIn (hm : Mem en g w) {own : Option Bool} {c : Cs} {xs : List Cell} {us : List Value} {y : c.den × List (Name × Entry)} {L : List Name} (hc : All2 (CellRep (dom en) g w) xs us) (hr : (c.intoO own xs).Runs (find en) y L) {used : List (Name × Entry)} {ro : List Name}
    (hs : Still en g I used ro) (hsub : ∀ p ∈ y.2, p ∈ used) : CsIn I w own c y.1 us (tsOf g y.2) (nsOf en g y.2) ∧ UsedAny en y.2 := by
  cases own with
  | some m =>
    cases m with
    | true =>
      obtain ⟨h1, h2⟩ := Cs.into_own hm hc hr
      obtain ⟨k1, k2, k3, k4⟩ := used_gone hm h2
      refine ⟨.inl ⟨true, _, rfl, ?_, fun _ => rfl⟩, k3⟩
      rw [k2] at k4
      rw [k1, k2]; exact Cs.own_gifts hs.old h1 k4
    | false =>
      obtain ⟨ns', h1, h2⟩ := Cs.into_top hs.old hm hc hr
      exact ⟨.inl ⟨false, ns', rfl, h1, (fun h => by cases h)⟩, h2⟩
  | none =>
    obtain ⟨⟨F, h1, h3⟩, h2⟩ := Cs.into_shared hm hc hr
    obtain ⟨k1, k2, k3⟩ := used_fwd (g := g) h2
    refine ⟨.inr ⟨rfl, k1, k2, F, h1, fun b hb => ?_⟩, k3⟩
    rcases h3 b hb with h | ⟨n, hn, f, hf, ha, ht⟩
    · exact hs.old b h
    · obtain ⟨p, hp, rfl⟩ := List.mem_map.1 hn
      obtain ⟨e, m, xs', e1, _, e3⟩ | ⟨_, e, xs', e1, e3⟩ := h2 p hp
      · exact hs.fwd p (hsub p hp) e xs' e3 b ht
      · rw [e1] at hf; cases hf; cases ha
def PtrsOf (en : List (Name × Entry)) (g : Gh) (used : List (Name × Entry)) : List PSig → List Value → List Name → Prop
  | [], _, ns => ns = []
  | _ :: _, [], _ => False
  | .val .. :: ps, _ :: vs, ns => PtrsOf en g used ps vs ns
  | .ptr .. :: ps, v :: vs, ns => ∃ n ns', ns = n :: ns' ∧ (n, .gone) ∈ used ∧ (∃ cs, find en n = some (.box cs)) ∧ g.loc n = v ∧ PtrsOf en g used ps vs ns'
theorem PtrsOf.mono {used used' : List (Name × Entry)} (h : ∀ p ∈ used, p ∈ used') : ∀ {ps : List PSig} {vs : List Value} {ns : List Name}, PtrsOf en g used ps vs ns → PtrsOf en g used' ps vs ns
  | [], _, _, k => k
  | .val .. :: ps, v :: vs, ns, k => PtrsOf.mono (ps := ps) (vs := vs) h k
  | .ptr .. :: ps, v :: vs, ns, ⟨n, ns', k1, k2, k3, k4, k5⟩ => ⟨n, ns', k1, h _ k2, k3, k4, PtrsOf.mono h k5⟩
  | .val .. :: _, [], _, k => k
  | .ptr .. :: _, [], _, k => k
theorem bind_args (hm : Mem en g w) {sl : Bool} : ∀ {ps : List PSig} {args : List AV} {vals : List Value} {b : Bound (psCs ps)} {L : List Name}, All2 (AVRep (dom en) g w) args vals → (bindArgs sl ps args).Runs (find en) b L → Still en g I b.used b.ro →
    ArgsAt I w ps b.args vals (tsOf g b.used) (nsOf en g b.used) ∧ UsedAny en b.used ∧ PtrsOf en g b.used ps vals b.ptrs
  | [], [], [], b, L, _, hr, _ => by obtain ⟨rfl, _⟩ := hr; exact ⟨⟨rfl, rfl, rfl⟩, fun p hp => by simp at hp, rfl⟩
  | .val agg c false :: ps, v :: args, u :: vals, b, L, ha, hr, hs => by
    simp only [bindArgs] at hr
    obtain ⟨_, L5, L6, _, h0, hr⟩ := Rd.runs_bind hr
    obtain ⟨a, L1, L2, _, h1, hr⟩ := Rd.runs_bind hr
    obtain ⟨b', L3, L4, _, h2, hr⟩ := Rd.runs_bind hr
    obtain ⟨rfl, _⟩ := hr
    obtain ⟨us, hag, hcs⟩ := agg_cells ha.1 (Rd.runs_need h0).1
    obtain ⟨k1, k2, k3⟩ := bind_args hm ha.2 h2 ⟨hs.old, fun p hp => hs.fwd p (List.mem_append_right _ hp), fun n hn => hs.lent n (List.mem_append_right _ hn)⟩
    cases sl with
    | true =>
      obtain ⟨k4, k5⟩ := into_csIn (own := none) hm hcs h1 hs (fun p hp => List.mem_append_left _ hp)
      refine ⟨⟨u, vals, us, _, _, _, _, rfl, hag, List.flatMap_append, List.flatMap_append, ?_, ?_⟩, k5.append k2, PtrsOf.mono (ps := ps) (vs := vals) (fun p hp => List.mem_append_right _ hp) k3⟩
      · show CsIn I w none c (Tup.hd c (psCs ps) (Tup.mk c (psCs ps) a.1 b'.args)) us _ _; rw [Tup.hd_mk]; exact k4
      · show ArgsAt I w ps (Tup.tl c (psCs ps) (Tup.mk c (psCs ps) a.1 b'.args)) vals _ _; rw [Tup.tl_mk]; exact k1
    | false =>
      obtain ⟨y, _, _, _, h3, h4⟩ := Rd.runs_bind h1
      obtain ⟨rfl, _⟩ := h4
      obtain ⟨F, hF, hFI⟩ := Cs.read_sound hm hcs h3
      refine ⟨⟨u, vals, us, [], tsOf g b'.used, [], nsOf en g b'.used, rfl, hag, by simp, by simp, .inr ⟨rfl, rfl, rfl, F, ?_, fun q hq => ?_⟩, ?_⟩, k2, PtrsOf.mono (ps := ps) (vs := vals) (fun p hp => hp) k3⟩
      · show Cs.Rep w c (Tup.hd c (psCs ps) (Tup.mk c (psCs ps) y b'.args)) us F; rw [Tup.hd_mk]; exact hF
      · rcases hFI q hq with h | ⟨n, hn, f, hf, hal, ht⟩
        · exact hs.old q h
        · exact hs.lent n (List.mem_append_left _ hn) f q hf hal ht
      · show ArgsAt I w ps (Tup.tl c (psCs ps) (Tup.mk c (psCs ps) y b'.args)) vals _ _; rw [Tup.tl_mk]; exact k1
  | .val agg c true :: ps, v :: args, u :: vals, b, L, ha, hr, hs => by
    simp only [bindArgs] at hr
    obtain ⟨_, L5, L6, _, h0, hr⟩ := Rd.runs_bind hr
    obtain ⟨a, L1, L2, _, h1, hr⟩ := Rd.runs_bind hr
    obtain ⟨b', L3, L4, _, h2, hr⟩ := Rd.runs_bind hr
    obtain ⟨rfl, _⟩ := hr
    obtain ⟨us, hag, hcs⟩ := agg_cells ha.1 (Rd.runs_need h0).1
    obtain ⟨k1, k2, k3⟩ := bind_args hm ha.2 h2 ⟨hs.old, fun p hp => hs.fwd p (List.mem_append_right _ hp), hs.lent⟩
    obtain ⟨k4, k5⟩ := into_csIn (own := some true) hm hcs h1 hs (fun p hp => List.mem_append_left _ hp)
    refine ⟨⟨u, vals, us, _, _, _, _, rfl, hag, List.flatMap_append, List.flatMap_append, ?_, ?_⟩, k5.append k2, PtrsOf.mono (ps := ps) (vs := vals) (fun p hp => List.mem_append_right _ hp) k3⟩
    · show CsIn I w (some true) c (Tup.hd c (psCs ps) (Tup.mk c (psCs ps) a.1 b'.args)) us _ _; rw [Tup.hd_mk]; exact k4
    · show ArgsAt I w ps (Tup.tl c (psCs ps) (Tup.mk c (psCs ps) a.1 b'.args)) vals _ _; rw [Tup.tl_mk]; exact k1
  | .ptr c own :: ps, .cell (.box n 0) :: args, u :: vals, b, L, ha, hr, hs => by
    simp only [bindArgs] at hr
    obtain ⟨L', _, hr⟩ := hr
    dsimp only at hr
    split at hr
    · rename_i cs hn
      obtain ⟨a, L1, L2, _, h1, hr⟩ := Rd.runs_bind hr
      obtain ⟨b', L3, L4, _, h2, hr⟩ := Rd.runs_bind hr
      obtain ⟨rfl, _⟩ := hr
      obtain ⟨k1, k2, k3⟩ := bind_args hm ha.2 h2 ⟨hs.old, fun p hp => hs.fwd p (List.mem_cons_of_mem _ (List.mem_append_right _ hp)), hs.lent⟩
      obtain ⟨blk, us, e1, e2, e3, e4⟩ := hm.rep n _ hn
      obtain ⟨k4, k5⟩ := into_csIn (own := own) hm e4 h1 hs (fun p hp => List.mem_cons_of_mem _ (List.mem_append_left _ hp))
      obtain ⟨_, blk', e5, e6⟩ := ha.1
      rw [e2] at e5
      cases e5
      refine ⟨⟨blk, vals, us, tsOf g a.2, tsOf g b'.used, nsOf en g a.2, nsOf en g b'.used, ?_, e3, ?_, ?_, ?_, ?_⟩, ?_, n, b'.ptrs, rfl, List.mem_cons_self, ⟨cs, hn⟩, e2.trans e6.symm, PtrsOf.mono (fun p hp => List.mem_cons_of_mem _ (List.mem_append_right _ hp)) k3⟩
      · rw [e6]
      · show ((n, Entry.gone) :: (a.2 ++ b'.used)).flatMap (tops1 g) = _
        rw [List.flatMap_cons, List.flatMap_append]
        simp [tops1, e1, tsOf]
      · show ((n, Entry.gone) :: (a.2 ++ b'.used)).flatMap (nests1 en g) = _
        rw [List.flatMap_cons, List.flatMap_append]
        simp [nests1, hn, nsOf]
      · show CsIn I w own c (Tup.hd c (psCs ps) (Tup.mk c (psCs ps) a.1 b'.args)) us _ _; rw [Tup.hd_mk]; exact k4
      · show ArgsAt I w ps (Tup.tl c (psCs ps) (Tup.mk c (psCs ps) a.1 b'.args)) vals _ _; rw [Tup.tl_mk]; exact k1
      · intro p hp
        rcases List.mem_cons.1 hp with rfl | hp
        · exact .inr (.inl ⟨rfl, cs, hn⟩)
        · exact (k5.append k2) p hp
    · exact hr.elim
  | .val _ _ false :: _, [], _, _, _, _, hr, _ => hr.elim
  | .val _ _ true :: _, [], _, _, _, _, hr, _ => hr.elim
  | .ptr _ _ :: _, [], _, _, _, _, hr, _ => hr.elim
end Go.V
namespace Go.V
set_option linter.unusedVariables false
set_option linter.unusedSimpArgs false
variable {w0 : World} {T N : Nat → Prop} {en en' : List (Name × Entry)} {g g' : Gh} {w : World} {I : Nat → Prop}

theorem row_uniq {b off : Nat} {vs us : List Value} (h : row w b off vs) (k : row w b off us) (hl : vs.length = us.length) : vs = us := by
  obtain ⟨c, t, fz, h1, h2⟩ := h
  obtain ⟨c', t', fz', k1, k2⟩ := k
  rw [h1] at k1; cases k1
  rw [← h2, ← k2, hl]
theorem listRep.uniq {α : Type} {n : Nat} {R : α → List Value → List Nat → Prop} (hR : ∀ x y v F G, R x v F → R y v G → x = y) : ∀ {xs ys : List α} {vs : List Value} {F G : List Nat}, xs.length = ys.length → listRep n R xs vs F → listRep n R ys vs G → xs = ys
  | [], [], _, _, _, _, _, _ => rfl
  | x :: xs, y :: ys, vs, F, G, hl, h, k => by
    obtain ⟨v1, v2, F1, F2, rfl, h1, rfl, hr, h⟩ := h
    obtain ⟨u1, u2, G1, G2, he, k1, rfl, kr, k⟩ := k
    obtain ⟨rfl, rfl⟩ := List.append_inj he (by omega)
    rw [hR x y v1 F1 G1 hr kr, listRep.uniq hR (by simpa using hl) h k]
  | [], _ :: _, _, _, _, hl, _, _ => by simp at hl
  | _ :: _, [], _, _, _, hl, _, _ => by simp at hl
mutual
theorem CT.Rep.uniq : ∀ {c : CT} {x y : c.den} {v : Value} {F G : List Nat}, CT.Rep w c x v F → CT.Rep w c y v G → x = y
  | .int k, x, y, v, F, G, h, h' => by
    simp only [CT.Rep] at h h'
    have := h.1.symm.trans h'.1
    cases this; rfl
  | .bool, x, y, v, F, G, h, h' => by
    simp only [CT.Rep] at h h'
    have := h.1.symm.trans h'.1
    cases this; rfl
  | .str, x, y, v, F, G, h, h' => by
    simp only [CT.Rep] at h h'
    have := h.1.symm.trans h'.1
    simp only [Value.string.injEq] at this
    have := congrArg (fun b : ByteArray => b.data.toList) this
    simpa using this
  | .err, x, y, v, F, G, h, h' => by
    simp only [CT.Rep] at h h'
    rcases h.2 with ⟨h1, h2⟩ | ⟨h1, t, u, h2⟩ <;> rcases h'.2 with ⟨k1, k2⟩ | ⟨k1, t', u', k2⟩
    · rw [h1, k1]
    · rw [h2] at k2; cases k2
    · rw [h2] at k2; cases k2
    · rw [h1, k1]
  | .sl e, x, y, v, F, G, h, h' => by
    rw [rep_sl] at h h'
    rcases h with ⟨⟨a, h1⟩, h2, _⟩ | ⟨b, off, cap, vs, F', h1, _, h3, h4, h5, h6⟩ <;> rcases h' with ⟨⟨a', k1⟩, k2, _⟩ | ⟨b', off', cap', vs', G', k1, _, k3, k4, k5, k6⟩
    · rw [h2, k2]
    · rw [h1] at k1
      have : y.length = 0 := by simp only [Value.slice.injEq] at k1; exact k1.2.1.symm
      rw [h2]; exact (List.eq_nil_of_length_eq_zero this).symm
    · rw [k1] at h1
      have : x.length = 0 := by simp only [Value.slice.injEq] at h1; exact h1.2.1.symm
      rw [k2]; exact List.eq_nil_of_length_eq_zero this
    · rw [h1] at k1
      simp only [Value.slice.injEq, Option.some.injEq, Addr.mk.injEq] at k1
      obtain ⟨⟨rfl, rfl, _⟩, hl, _⟩ := k1
      have e1 := h6.length
      have e2 := k6.length
      have := row_uniq h5 k5 (by rw [e1, e2, hl])
      subst this
      exact listRep.uniq (R := Cs.Rep w e) (fun x y v F G h k => Cs.Rep.uniq h k) hl h6 k6
theorem Cs.Rep.uniq : ∀ {e : Cs} {x y : e.den} {vs : List Value} {F G : List Nat}, Cs.Rep w e x vs F → Cs.Rep w e y vs G → x = y
  | .one c, x, y, vs, F, G, h, k => by
    simp only [Cs.Rep] at h k
    obtain ⟨v, rfl, h⟩ := h
    obtain ⟨u, hu, k⟩ := k
    cases hu
    exact CT.Rep.uniq h k
  | .cons c r, x, y, vs, F, G, h, k => by
    simp only [Cs.Rep] at h k
    obtain ⟨v, vs', F1, F2, rfl, rfl, h1, h2⟩ := h
    obtain ⟨u, us', G1, G2, hu, rfl, k1, k2⟩ := k
    cases hu
    exact Prod.ext (CT.Rep.uniq h1 k1) (Cs.Rep.uniq h2 k2)
end
theorem Cs.slIs_lt : ∀ {e : Cs} {j : Nat} {f : Cs}, e.slIs j f = true → j < e.len
  | .one c, 0, _, _ => by simp [Cs.len]
  | .one c, j + 1, f, h => by cases c <;> simp [Cs.slIs] at h
  | .cons c r, 0, _, _ => by simp [Cs.len]
  | .cons c r, j + 1, f, h => by
    have h : r.slIs j f = true := by cases c <;> exact h
    have := Cs.slIs_lt h; simp [Cs.len]; omega
theorem range_split (n m : Nat) (P : Nat → List Nat) : (List.range (n + m)).flatMap P = (List.range n).flatMap P ++ (List.range m).flatMap fun k => P (n + k) := by
  rw [List.range_add, List.flatMap_append, List.flatMap_map]
theorem Cs.Rep.feet : ∀ {e : Cs} {x : e.den} {vs : List Value} {F : List Nat}, Cs.Rep w e x vs F → ∃ P : Nat → List Nat, F = (List.range e.len).flatMap P ∧ ∀ j f, e.slIs j f = true → ∃ v zs, vs[j]? = some v ∧ CT.Rep w (.sl f) zs v (P j)
  | .one c, x, vs, F, h => by
    simp only [Cs.Rep] at h
    obtain ⟨v, rfl, h⟩ := h
    refine ⟨fun _ => F, by simp [Cs.len], fun j f hj => ?_⟩
    obtain rfl : j = 0 := by have := Cs.slIs_lt hj; simp [Cs.len] at this; exact this
    cases c with
    | sl e =>
      obtain rfl := isSame_eq (show isSame e f = true from hj)
      exact ⟨v, x, rfl, h⟩
    | _ => cases hj
  | .cons c r, x, vs, F, h => by
    simp only [Cs.Rep] at h
    obtain ⟨v, vs', F1, F2, rfl, rfl, h1, h2⟩ := h
    obtain ⟨P, hP, hk⟩ := Cs.Rep.feet h2
    refine ⟨fun | 0 => F1 | k + 1 => P k, ?_, fun j f hj => ?_⟩
    · rw [show Cs.len (.cons c r) = 1 + r.len by simp [Cs.len]; omega, range_split, hP]
      congr 1
      · simp
      · congr 1; funext k; rw [show 1 + k = k + 1 by omega]
    · cases j with
      | zero =>
        cases c with
        | sl e =>
          obtain rfl := isSame_eq (show isSame e f = true from hj)
          exact ⟨v, x.1, rfl, h1⟩
        | _ => cases hj
      | succ j =>
        obtain ⟨u, zs, k1, k2⟩ := hk j f (by cases c <;> exact hj)
        exact ⟨u, zs, by simpa using k1, k2⟩
theorem flatMap_same {α β : Type} {f g : α → List β} {l : List α} (h : ∀ x ∈ l, f x = g x) : l.flatMap f = l.flatMap g := by
  rw [List.flatMap_def, List.flatMap_def, List.map_congr_left h]
theorem listRep.feet {e : Cs} : ∀ {ys : List e.den} {vs : List Value} {F : List Nat}, listRep e.len (Cs.Rep w e) ys vs F → ∃ P : Nat → List Nat, F = (List.range (ys.length * e.len)).flatMap P ∧ ∀ i j f, i < ys.length → e.slIs j f = true → ∃ v zs, vs[i * e.len + j]? = some v ∧ CT.Rep w (.sl f) zs v (P (i * e.len + j))
  | [], vs, F, h => by obtain ⟨_, rfl⟩ := h; exact ⟨fun _ => [], by simp, fun i j f hi => by simp at hi⟩
  | y :: ys, vs, F, h => by
    obtain ⟨v1, v2, F1, F2, rfl, hv, rfl, hr, h⟩ := h
    obtain ⟨P1, p1, p2⟩ := Cs.Rep.feet hr
    obtain ⟨P2, q1, q2⟩ := listRep.feet h
    refine ⟨fun p => if p < e.len then P1 p else P2 (p - e.len), ?_, fun i j f hi hj => ?_⟩
    · rw [show (y :: ys).length * e.len = e.len + ys.length * e.len by rw [List.length_cons, Nat.succ_mul]; omega, range_split, p1, q1]
      congr 1
      · refine flatMap_same fun p hp => ?_
        rw [if_pos (List.mem_range.1 hp)]
      · refine flatMap_same fun p hp => ?_
        rw [if_neg (by omega), Nat.add_sub_cancel_left]
    · have hjl := Cs.slIs_lt hj
      cases i with
      | zero =>
        obtain ⟨v, zs, k1, k2⟩ := p2 j f hj
        refine ⟨v, zs, ?_, ?_⟩
        · rw [Nat.zero_mul, Nat.zero_add, List.getElem?_append_left (by omega)]; exact k1
        · rw [Nat.zero_mul, Nat.zero_add]; simp only [if_pos hjl]; exact k2
      | succ i =>
        obtain ⟨v, zs, k1, k2⟩ := q2 i j f (by simpa using hi) hj
        have e1 : (i + 1) * e.len + j = e.len + (i * e.len + j) := by rw [Nat.succ_mul]; omega
        refine ⟨v, zs, ?_, ?_⟩
        · rw [e1, List.getElem?_append_right (by omega), hv, Nat.add_sub_cancel_left]; exact k1
        · rw [e1]; simp only [if_neg (show ¬ e.len + (i * e.len + j) < e.len by omega), Nat.add_sub_cancel_left]; exact k2
theorem count_feet {P : Nat → List Nat} {b : Nat} : ∀ (n : Nat) (ps : List Nat), ps.Nodup → (∀ p ∈ ps, p < n) → (ps.flatMap P).count b ≤ ((List.range n).flatMap P).count b
  | 0, ps, _, h => by
    cases ps with
    | nil => simp
    | cons p ps => have := h p (by simp); omega
  | n + 1, ps, hn, h => by
    rw [List.range_succ, List.flatMap_append, List.count_append]
    by_cases hm : n ∈ ps
    · have h1 := List.perm_cons_erase hm
      have h2 : (ps.flatMap P).count b = ((n :: ps.erase n).flatMap P).count b := by
        rw [List.count_flatMap, List.count_flatMap]
        exact (h1.map _).sum_nat
      rw [h2, List.flatMap_cons, List.count_append]
      have h3 := count_feet n (ps.erase n) (hn.erase n) (fun p hp => by
        have h4 := h p (List.mem_of_mem_erase hp)
        have h5 : p ≠ n := fun e => by subst e; exact (List.Nodup.not_mem_erase hn) hp
        omega) (P := P) (b := b)
      simp only [List.flatMap_cons, List.flatMap_nil, List.append_nil]
      omega
    · have h3 := count_feet n ps hn (fun p hp => by
        have h4 := h p hp
        have h5 : p ≠ n := fun e => by subst e; exact hm hp
        omega) (P := P) (b := b)
      omega
def FeetOk (en : List (Name × Entry)) (g : Gh) (w : World) (r : Name) (P : Nat → List Nat) : Prop :=
  ∀ e ys, find en r = some (.frz e ys) → (∀ b, ((List.range (ys.length * e.len)).flatMap P).count b ≤ (g.nest r).count b) ∧
    ∀ j f (xs : List f.den) v, CellRep (dom en) g w (.kid r j f xs) v → e.slIs j f = true → ∃ p, p % e.len = j ∧ p < ys.length * e.len ∧ CT.Rep w (.sl f) xs v (P p)
theorem feet_ex (hm : Mem en g w) : ∃ P : Name → Nat → List Nat, ∀ r, FeetOk en g w r (P r) := by
  apply Classical.skolem.1
  intro r
  cases hn : find en r with
  | none => exact ⟨fun _ => [], fun e ys h => by rw [hn] at h; cases h⟩
  | some E =>
    cases E with
    | frz e ys =>
      obtain ⟨k1, k2, k3, k4, k5⟩ := hm.rep r _ hn
      rw [rep_sl] at k3
      rcases k3 with ⟨⟨a, h1⟩, rfl, h3⟩ | ⟨b, off, cap, vs, F', h1, h2, h3, h4, h5, h6⟩
      · refine ⟨fun _ => [], fun e' ys' h => ?_⟩
        rw [hn] at h; cases h
        refine ⟨fun b => by simp, fun j f xs v hv hj => ?_⟩
        obtain ⟨_, _, b, o, len, cap, i, q1, q2, _⟩ := hv
        rw [h1] at q1; cases q1; omega
      · obtain ⟨P, p1, p2⟩ := listRep.feet h6
        refine ⟨P, fun e' ys' h => ?_⟩
        rw [hn] at h; cases h
        refine ⟨fun c => by rw [← p1, h2, List.count_cons]; omega, fun j f xs v hv hj => ?_⟩
        obtain ⟨⟨F, hF, _⟩, _, b', o, len, cap', i, q1, q2, q3, q4⟩ := hv
        rw [h1] at q1; cases q1
        have hjl := Cs.slIs_lt hj
        obtain ⟨u, zs, r1, r2⟩ := p2 i j f q2 hj
        have hvl := h6.length
        have hu : u = v := by
          rw [k1] at q4
          have hlt : i * e.len + j < vs.length := (List.getElem?_eq_some_iff.1 r1).1
          obtain ⟨c, t, fz, hc, hr⟩ := h5
          obtain ⟨c', t', fz', hc', hr'⟩ := q4
          rw [hc] at hc'; cases hc'
          have e1 : vs[i * e.len + j]? = c.toList[off + (i * e.len + j)]? := by
            rw [← hr, List.getElem?_take_of_lt hlt, List.getElem?_drop]
          have e2 : c.toList[off + (i * e.len + j)]? = some v := by
            have := congrArg (fun l : List Value => l[0]?) hr'
            simp only [List.length_singleton, List.getElem?_take_of_lt (show 0 < 1 by omega), List.getElem?_drop, Nat.add_zero] at this
            simpa using this
          rw [e1, e2] at r1; cases r1; rfl
        subst hu
        have hxz : zs = xs := CT.Rep.uniq r2 hF
        subst hxz
        refine ⟨i * e.len + j, ?_, ?_, r2⟩
        · rw [Nat.mul_comm, Nat.mul_add_mod, Nat.mod_eq_of_lt hjl]
        · have := Nat.mul_le_mul_right e.len (show i + 1 ≤ ys.length from q2)
          rw [Nat.succ_mul] at this; omega
    | _ => exact ⟨fun _ => [], fun e ys h => by rw [hn] at h; cases h⟩
def Piece (en : List (Name × Entry)) (g : Gh) (P : Name → Nat → List Nat) (c : Name × Option Nat) (G : List Nat) : Prop :=
  ∃ e ys, find en c.1 = some (.frz e ys) ∧ match c.2 with | none => G = g.nest c.1 | some j => ∃ p, p % e.len = j ∧ p < ys.length * e.len ∧ G = P c.1 p
theorem CT.chill_sound (hm : Mem en g w) {P : Name → Nat → List Nat} (hP : ∀ r, FeetOk en g w r (P r)) {c : CT} {x : Cell} {v : Value} {y : c.den × List (Name × Option Nat)} {L : List Name} (hc : CellRep (dom en) g w x v) (hr : (c.chill x).Runs (find en) y L) :
    ∃ F Gs, CT.Rep w c y.1 v F ∧ F = Gs.flatten ∧ All2 (Piece en g P) y.2 Gs := by
  cases c with
  | sl e =>
    cases x <;> try exact hr.elim
    case nil => obtain ⟨rfl, _⟩ := hr; exact ⟨[], [], rep_sl.2 (.inl ⟨⟨_, hc⟩, rfl, rfl⟩), rfl, trivial⟩
    case own r =>
      obtain ⟨L', _, hr⟩ := hr
      dsimp only at hr
      split at hr
      · rename_i f ys hn
        split at hr
        · rename_i h _; subst h
          obtain ⟨rfl, _⟩ := hr
          obtain ⟨_, _, k3, _⟩ := hm.rep r _ hn
          obtain ⟨_, rfl⟩ := hc
          exact ⟨_, [g.nest r], k3, by simp, ⟨_, ys, hn, rfl⟩, trivial⟩
        · exact hr.elim
      · exact hr.elim
    case kid r j f xs =>
      simp only [CT.chill] at hr
      split at hr
      · rename_i h _; subst h
        obtain ⟨L', _, hr⟩ := hr
        dsimp only at hr
        split at hr
        · rename_i q ys hn
          cases hk : q.slIs j f with
          | false => rw [hk] at hr; exact hr.elim
          | true =>
            rw [hk] at hr
            obtain ⟨rfl, _⟩ := hr
            obtain ⟨p, p1, p2, p3⟩ := (hP r q ys hn).2 j f xs v hc hk
            exact ⟨_, [P r p], p3, by simp, ⟨q, ys, hn, p, p1, p2, rfl⟩, trivial⟩
        · exact hr.elim
      · exact hr.elim
  | int k =>
    obtain ⟨a, L1, L2, _, h1, rfl, _⟩ := Rd.runs_bind hr
    obtain ⟨F, hF, _⟩ := CT.read_sound (c := .int k) hm hc h1
    rw [CT.rep_foot rfl hF] at hF
    exact ⟨[], [], hF, rfl, trivial⟩
  | bool =>
    obtain ⟨a, L1, L2, _, h1, rfl, _⟩ := Rd.runs_bind hr
    obtain ⟨F, hF, _⟩ := CT.read_sound (c := .bool) hm hc h1
    rw [CT.rep_foot rfl hF] at hF
    exact ⟨[], [], hF, rfl, trivial⟩
  | str =>
    obtain ⟨a, L1, L2, _, h1, rfl, _⟩ := Rd.runs_bind hr
    obtain ⟨F, hF, _⟩ := CT.read_sound (c := .str) hm hc h1
    rw [CT.rep_foot rfl hF] at hF
    exact ⟨[], [], hF, rfl, trivial⟩
  | err =>
    obtain ⟨a, L1, L2, _, h1, rfl, _⟩ := Rd.runs_bind hr
    obtain ⟨F, hF, _⟩ := CT.read_sound (c := .err) hm hc h1
    rw [CT.rep_foot rfl hF] at hF
    exact ⟨[], [], hF, rfl, trivial⟩
theorem Cs.chill_sound (hm : Mem en g w) {P : Name → Nat → List Nat} (hP : ∀ r, FeetOk en g w r (P r)) : ∀ {e : Cs} {xs : List Cell} {vs : List Value} {y : e.den × List (Name × Option Nat)} {L : List Name}, All2 (CellRep (dom en) g w) xs vs → (e.chill xs).Runs (find en) y L →
    ∃ F Gs, Cs.Rep w e y.1 vs F ∧ F = Gs.flatten ∧ All2 (Piece en g P) y.2 Gs
  | .one c, [x], [v], y, L, hc, hr => by
    obtain ⟨F, Gs, h1, h2, h3⟩ := CT.chill_sound hm hP hc.1 hr
    exact ⟨F, Gs, by simp only [Cs.Rep]; exact ⟨v, rfl, h1⟩, h2, h3⟩
  | .cons c r, x :: xs, v :: vs, y, L, hc, hr => by
    simp only [Cs.chill] at hr
    obtain ⟨a, L1, L2, _, h1, hr⟩ := Rd.runs_bind hr
    obtain ⟨b, L3, L4, _, h2, hr⟩ := Rd.runs_bind hr
    obtain ⟨rfl, _⟩ := hr
    obtain ⟨F1, G1, a1, a2, a3⟩ := CT.chill_sound hm hP hc.1 h1
    obtain ⟨F2, G2, b1, b2, b3⟩ := Cs.chill_sound hm hP hc.2 h2
    exact ⟨F1 ++ F2, G1 ++ G2, by simp only [Cs.Rep]; exact ⟨v, vs, F1, F2, rfl, rfl, a1, b1⟩, by rw [a2, b2, List.flatten_append], a3.append b3⟩
  | .one _, [], _, _, _, _, hr => hr.elim
  | .one _, _ :: _ :: _, _, _, _, _, hr => hr.elim
  | .cons _ _, [], _, _, _, _, hr => hr.elim
theorem kids_pos {P : Name → Nat → List Nat} {r : Name} {e : Cs} {ys : List e.den} (hn : find en r = some (.frz e ys)) : ∀ {lo : Nat} {l : List (Name × Option Nat)} {Gs : List (List Nat)}, kidsOk r lo l = true → All2 (Piece en g P) l Gs →
    ∃ ps : List Nat, Gs = ps.map (P r) ∧ (∀ p ∈ ps, p < ys.length * e.len ∧ lo ≤ p % e.len) ∧ ps.Nodup
  | _, [], [], _, _ => ⟨[], rfl, by simp, List.nodup_nil⟩
  | lo, (s, some j) :: l, G :: Gs, hk, h => by
    simp only [kidsOk, Bool.and_eq_true] at hk
    obtain ⟨⟨h1, h2⟩, h3⟩ := hk
    obtain rfl := Nat.eq_of_beq_eq_true h1
    obtain ⟨⟨e', ys', hn', p, p1, p2, p3⟩, hA⟩ := h
    rw [show find en s = _ from hn] at hn'; cases hn'
    obtain ⟨ps, q1, q2, q3⟩ := kids_pos hn h3 hA
    refine ⟨p :: ps, by rw [q1, p3]; rfl, fun q hq => ?_, List.nodup_cons.2 ⟨fun hp => ?_, q3⟩⟩
    · rcases List.mem_cons.1 hq with rfl | hq
      · exact ⟨p2, by rw [p1]; exact Nat.le_of_ble_eq_true h2⟩
      · obtain ⟨z1, z2⟩ := q2 q hq
        exact ⟨z1, by have := Nat.le_of_ble_eq_true h2; omega⟩
    · have := (q2 p hp).2
      omega
  | _, (_, none) :: _, _ :: _, hk, _ => by cases hk
theorem claims_count (hm : Mem en g w) {P : Name → Nat → List Nat} (hP : ∀ r, FeetOk en g w r (P r)) {l : List (Name × Option Nat)} {Gs : List (List Nat)} (hk : claimOk l = true) (h : All2 (Piece en g P) l Gs) :
    (∀ b, Gs.flatten.count b ≤ (nsOf en g (goneOf l)).count b) ∧ tsOf g (goneOf l) = [] ∧ UsedAny en (goneOf l) ∧ ∀ b ∈ Gs.flatten, g.I b := by
  have kidCase : ∀ (r : Name) (j : Nat) (l : List (Name × Option Nat)) (Gs : List (List Nat)), kidsOk r (j + 1) l = true → All2 (Piece en g P) ((r, some j) :: l) Gs →
      (∀ b, Gs.flatten.count b ≤ (nsOf en g [(r, .gone)]).count b) ∧ tsOf g [(r, .gone)] = [] ∧ UsedAny en [(r, .gone)] ∧ ∀ b ∈ Gs.flatten, g.I b := by
    intro r j l Gs hk h
    cases Gs with
    | nil => exact h.elim
    | cons G Gs =>
      obtain ⟨⟨e, ys, hn, _⟩, _⟩ := id h
      obtain ⟨ps, q1, q2, q3⟩ := kids_pos (lo := j) hn (by simp only [kidsOk, Bool.and_eq_true]; exact ⟨⟨by simp, by simp⟩, hk⟩) h
      obtain ⟨_, k2, _, k4, _⟩ := hm.rep r _ hn
      have hcnt : ∀ b, (G :: Gs).flatten.count b ≤ (g.nest r).count b := fun b => by
        rw [q1, ← List.flatMap_def]
        exact Nat.le_trans (count_feet _ ps q3 (fun p hp => (q2 p hp).1)) ((hP r e ys hn).1 b)
      refine ⟨fun b => ?_, by simp [tsOf, tops1, k2], fun p hp => ?_, fun b hb => k4 b (mem_count1 (hcnt b) hb)⟩
      · simp only [nsOf, List.flatMap_cons, List.flatMap_nil, List.append_nil, nests1, hn]; exact hcnt b
      · obtain rfl := List.mem_singleton.1 hp
        exact .inr (.inr (.inr ⟨e, ys, hn, .inl rfl⟩))
  have ownCase : ∀ (l : List (Name × Option Nat)) (Gs : List (List Nat)), (l.all fun p => p.2.isNone) = true → All2 (Piece en g P) l Gs →
      Gs.flatten = nsOf en g (l.map fun p => (p.1, Entry.gone)) ∧ tsOf g (l.map fun p => (p.1, Entry.gone)) = [] ∧ UsedAny en (l.map fun p => (p.1, Entry.gone)) ∧ ∀ b ∈ Gs.flatten, g.I b := by
    intro l
    induction l with
    | nil =>
      intro Gs _ h
      cases Gs with
      | nil => exact ⟨rfl, rfl, fun p hp => by simp at hp, fun b hb => by simp at hb⟩
      | cons _ _ => exact h.elim
    | cons c l ih =>
      intro Gs hk h
      cases Gs with
      | nil => exact h.elim
      | cons G Gs =>
        obtain ⟨r, x⟩ := c
        simp only [List.all_cons, Bool.and_eq_true] at hk
        cases x with
        | some j => cases hk.1
        | none =>
          obtain ⟨⟨e, ys, hn, hG⟩, hA⟩ := h
          obtain ⟨i1, i2, i3, i4⟩ := ih Gs hk.2 hA
          have hG : G = g.nest r := hG
          have hn : find en r = some (.frz e ys) := hn
          obtain ⟨_, k2, _, k4, _⟩ := hm.rep r _ hn
          refine ⟨?_, ?_, fun p hp => ?_, fun b hb => ?_⟩
          · rw [List.flatten_cons, i1, List.map_cons]; unfold nsOf; rw [List.flatMap_cons]; simp [nests1, hn, hG]
          · rw [List.map_cons]; unfold tsOf at i2 ⊢; rw [List.flatMap_cons, i2]; simp [tops1, k2]
          · rcases List.mem_cons.1 hp with rfl | hp
            · exact .inr (.inr (.inr ⟨e, ys, hn, .inl rfl⟩))
            · exact i3 p hp
          · rw [List.flatten_cons] at hb
            rcases List.mem_append.1 hb with hb | hb
            · rw [hG] at hb; exact k4 b hb
            · exact i4 b hb
  match l, hk, h with
  | (r, some j) :: l, hk, h => exact kidCase r j l Gs hk h
  | [], hk, h =>
    obtain ⟨i1, i2, i3, i4⟩ := ownCase [] Gs rfl h
    exact ⟨fun b => by rw [i1]; exact Nat.le_refl _, i2, i3, i4⟩
  | (r, none) :: l, hk, h =>
    obtain ⟨i1, i2, i3, i4⟩ := ownCase ((r, none) :: l) Gs hk h
    exact ⟨fun b => by rw [i1]; exact Nat.le_refl _, i2, i3, i4⟩
end Go.V
namespace Go.V
set_option linter.unusedVariables false
set_option linter.unusedSimpArgs false
variable {P : Program} {G : Env} {w0 : World} {T N : Nat → Prop} {en en' : List (Name × Entry)} {S : St} {g g' : Gh} {w : World} {a : Act} {I : Nat → Prop}

def resOne (tmps : Array Value) : ResultVar → Sem Value
  | .tmp t => pure (tmps.getD t undef)
  | .cell a t => do loadVar t (← asAddr (tmps.getD a undef))
theorem resAV_rep (h : Inv w0 T N S g w a) (hT : Tis P G.ti) : ∀ {rv : List ResultVar} {vs : List AV}, resAV G S rv = some vs → ∃ rvals, All2 (AVRep (dom S.en) g w) vs rvals ∧ (rv.mapM (resOne a.tmps)).run P w = .ok rvals w
  | [], vs, hr => by cases hr; exact ⟨[], trivial, rfl⟩
  | .tmp t :: l, vs, hr => by
    simp only [resAV] at hr
    cases hl : resAV G S l with
    | none => rw [hl] at hr; cases hr
    | some us =>
      rw [hl] at hr; cases hr
      obtain ⟨rvals, h1, h2⟩ := resAV_rep h hT hl
      refine ⟨a.tmps.getD t undef :: rvals, ⟨h.tmps t, h1⟩, ?_⟩
      rw [List.mapM_cons]
      simp only [resOne, Sem.run_bind, Sem.run_pure, Result.andThen, h2]
  | .cell b t :: l, vs, hr => by
    simp only [resAV] at hr
    cases hi : find G.ti t with
    | none => rw [hi] at hr; cases hr
    | some i =>
      rw [hi] at hr
      obtain ⟨n, hb⟩ : ∃ n, S.tmp b = .cell (.box n 0) := by
        cases hb : S.tmp b with
        | cell c =>
          rw [hb] at hr
          cases c with
          | box n off => cases off with
            | zero => exact ⟨n, rfl⟩
            | succ _ => cases hr
          | _ => cases hr
        | agg _ => rw [hb] at hr; cases hr
        | tup _ => rw [hb] at hr; cases hr
      rw [hb] at hr
      simp only at hr
      cases hn : S.ent n with
      | none => rw [hn] at hr; cases hr
      | some en1 =>
        cases hl : resAV G S l with
        | none => rw [hn, hl] at hr; cases en1 <;> cases hr
        | some us =>
          rw [hn, hl] at hr
          cases en1 with
          | tree => cases hr
          | frz => cases hr
          | box cs =>
            simp only at hr
            cases hlen : Nat.beq cs.length i.cs.len with
            | false => rw [hlen] at hr; cases hr
            | true =>
              rw [hlen] at hr; cases hr
              obtain ⟨rvals, h1, h2⟩ := resAV_rep h hT hl
              have hbv := h.tmps b
              rw [hb] at hbv
              obtain ⟨_, blk, e1, e2⟩ := hbv
              obtain ⟨blk', ws, e3, e4, e5, e6⟩ := h.mem.rep n _ hn
              rw [e1] at e4
              cases e4
              have hl2 : ws.length = i.cs.len := by rw [← e6.length]; exact Nat.eq_of_beq_eq_true hlen
              obtain ⟨d, u, z, hf⟩ := hT.facts hi
              have hload := run_loadVar (P := P) hf (ownBlock.row e5) hl2
              refine ⟨(if i.agg then .agg ws.toArray else ws.headD undef) :: rvals, ⟨?_, h1⟩, ?_⟩
              · cases ha : i.agg with
                | true => exact avOf_rep e6 (.inr ⟨rfl, rfl⟩)
                | false =>
                  obtain ⟨c, hc, _⟩ := hf.plain ha
                  rw [hc] at hl2
                  match ws, hl2, e6 with
                  | [v], _, e6 => exact avOf_rep e6 (.inl ⟨rfl, rfl⟩)
              · rw [List.mapM_cons]
                simp only [resOne, e2, asAddr, Sem.run_bind, Sem.run_pure, Result.andThen, hload, h2]
          | gone => cases hr
          | fwd _ _ => cases hr
          | root _ _ _ => cases hr
def pack (vs : List Value) : Value := match vs with | [v] => v | vs => .tuple vs.toArray
theorem results_run {fn : Func} {tmps : Array Value} {rvals : List Value} (h : (fn.results.toList.mapM (resOne tmps)).run P w = .ok rvals w) : (results fn tmps).run P w = .ok (pack rvals) w := by
  have e : results fn tmps = (do
      let vs ← fn.results.mapM (resOne tmps)
      pure (if h : vs.size = 1 then vs[0] else .tuple vs)) := by
    unfold results
    congr 1
  rw [e, Array.mapM_eq_mapM_toList]
  simp only [Sem.run_bind, Sem.run_pure, map_eq_pure_bind, Result.andThen, h]
  congr 1
  match rvals with
  | [] => rfl
  | [v] => rfl
  | _ :: _ :: _ => simp [pack]
def ResAt (I : Nat → Prop) (w : World) : (rs : List RSig) → Tup (rsCs rs) → List Value → List Nat → List Nat → Prop
  | [], _, vs, ts, ns => vs = [] ∧ ts = [] ∧ ns = []
  | .val agg c own :: rs, x, vs, ts, ns => ∃ v vs' us t1 t2 n1 n2, vs = v :: vs' ∧ isAgg agg v us ∧ ts = t1 ++ t2 ∧ ns = n1 ++ n2 ∧ CsIn I w own c (Tup.hd c (rsCs rs) x) us t1 n1 ∧ ResAt I w rs (Tup.tl c (rsCs rs) x) vs' t2 n2
  | .ptr c own :: rs, x, vs, ts, ns => ∃ b vs' us t1 t2 n1 n2, vs = .pointer (some ⟨b, 0, none⟩) :: vs' ∧ ownBlock w b us ∧ ts = b :: (t1 ++ t2) ∧ ns = n1 ++ n2 ∧ CsIn I w own c (Tup.hd c (rsCs rs) x) us t1 n1 ∧ ResAt I w rs (Tup.tl c (rsCs rs) x) vs' t2 n2
  | .cold agg c :: rs, x, vs, ts, ns => ∃ v vs' us n1 n2, vs = v :: vs' ∧ isAgg agg v us ∧ ns = n1 ++ n2 ∧ (∃ F, Cs.Rep w c (Tup.hd c (rsCs rs) x) us F ∧ (∀ b ∈ F, I b) ∧ ∀ b, F.count b ≤ n1.count b) ∧ ResAt I w rs (Tup.tl c (rsCs rs) x) vs' ts n2
def OutsAt (I : Nat → Prop) (w : World) : (ps : List PSig) → (rs : List RSig) → Tup (outCs ps rs) → List Nat → List Value → List Nat → List Nat → Prop
  | [], rs, x, bs, vs, ts, ns => bs = [] ∧ ResAt I w rs x vs ts ns
  | .val .. :: ps, rs, x, bs, vs, ts, ns => OutsAt I w ps rs x bs vs ts ns
  | .ptr c own :: ps, rs, x, bs, vs, ts, ns => ∃ b bs' us t1 t2 n1 n2, bs = b :: bs' ∧ ownBlock w b us ∧ ts = b :: (t1 ++ t2) ∧ ns = n1 ++ n2 ∧ CsIn I w own c (Tup.hd c (outCs ps rs) x) us t1 n1 ∧ OutsAt I w ps rs (Tup.tl c (outCs ps rs) x) bs' vs t2 n2
theorem takeRes_sound (hm : Mem en g w) : ∀ {rs : List RSig} {vs : List AV} {rvals : List Value} {y : Tup (rsCs rs) × List (Name × Entry)} {L : List Name}, All2 (AVRep (dom en) g w) vs rvals → okRes rs vs = true → (takeRes rs vs).Runs (find en) y L →
    ∀ {used : List (Name × Entry)}, Still en g I used [] → (∀ p ∈ y.2, p ∈ used) → ResAt I w rs y.1 rvals (tsOf g y.2) (nsOf en g y.2) ∧ UsedAny en y.2
  | [], [], [], y, L, _, _, hr, used, hs, hsub => by obtain ⟨rfl, _⟩ := hr; exact ⟨⟨rfl, rfl, rfl⟩, fun p hp => by simp at hp⟩
  | .val agg c own :: rs, v :: vs, u :: rvals, y, L, ha, ho, hr, used, hs, hsub => by
    simp only [takeRes] at hr
    obtain ⟨a, L1, L2, _, h1, hr⟩ := Rd.runs_bind hr
    obtain ⟨b, L3, L4, _, h2, hr⟩ := Rd.runs_bind hr
    obtain ⟨rfl, _⟩ := hr
    simp only [okRes, Bool.and_eq_true] at ho
    obtain ⟨us, hag, hcs⟩ := agg_cells ha.1 ho.1
    obtain ⟨k1, k2⟩ := takeRes_sound hm ha.2 ho.2 h2 hs (fun p hp => hsub p (List.mem_append_right _ hp))
    obtain ⟨k4, k5⟩ := into_csIn hm hcs h1 hs (fun p hp => hsub p (List.mem_append_left _ hp))
    refine ⟨⟨u, rvals, us, _, _, _, _, rfl, hag, List.flatMap_append, List.flatMap_append, ?_, ?_⟩, k5.append k2⟩
    · show CsIn I w own c (Tup.hd c (rsCs rs) (Tup.mk c (rsCs rs) a.1 b.1)) us _ _; rw [Tup.hd_mk]; exact k4
    · show ResAt I w rs (Tup.tl c (rsCs rs) (Tup.mk c (rsCs rs) a.1 b.1)) rvals _ _; rw [Tup.tl_mk]; exact k1
  | .ptr c own :: rs, .cell (.box n 0) :: vs, u :: rvals, y, L, ha, ho, hr, used, hs, hsub => by
    simp only [takeRes] at hr
    obtain ⟨L', _, hr⟩ := hr
    dsimp only at hr
    split at hr
    · rename_i cs hn
      obtain ⟨a, L1, L2, _, h1, hr⟩ := Rd.runs_bind hr
      obtain ⟨b, L3, L4, _, h2, hr⟩ := Rd.runs_bind hr
      obtain ⟨rfl, _⟩ := hr
      obtain ⟨k1, k2⟩ := takeRes_sound hm ha.2 ho h2 hs (fun p hp => hsub p (List.mem_cons_of_mem _ (List.mem_append_right _ hp)))
      obtain ⟨blk, us, e1, e2, e3, e4⟩ := hm.rep n _ hn
      obtain ⟨k4, k5⟩ := into_csIn hm e4 h1 hs (fun p hp => hsub p (List.mem_cons_of_mem _ (List.mem_append_left _ hp)))
      obtain ⟨_, blk', e5, e6⟩ := ha.1
      rw [e2] at e5
      cases e5
      refine ⟨⟨blk, rvals, us, tsOf g a.2, tsOf g b.2, nsOf en g a.2, nsOf en g b.2, by rw [e6], e3, ?_, ?_, ?_, ?_⟩, ?_⟩
      · show ((n, Entry.gone) :: (a.2 ++ b.2)).flatMap (tops1 g) = _
        rw [List.flatMap_cons, List.flatMap_append]; simp [tops1, e1, tsOf]
      · show ((n, Entry.gone) :: (a.2 ++ b.2)).flatMap (nests1 en g) = _
        rw [List.flatMap_cons, List.flatMap_append]; simp [nests1, hn, nsOf]
      · show CsIn I w own c (Tup.hd c (rsCs rs) (Tup.mk c (rsCs rs) a.1 b.1)) us _ _; rw [Tup.hd_mk]; exact k4
      · show ResAt I w rs (Tup.tl c (rsCs rs) (Tup.mk c (rsCs rs) a.1 b.1)) rvals _ _; rw [Tup.tl_mk]; exact k1
      · intro p hp
        rcases List.mem_cons.1 hp with rfl | hp
        · exact .inr (.inl ⟨rfl, cs, hn⟩)
        · exact (k5.append k2) p hp
    · exact hr.elim
  | .cold agg c :: rs, v :: vs, u :: rvals, y, L, ha, ho, hr, used, hs, hsub => by
    simp only [takeRes] at hr
    obtain ⟨a, L1, L2, _, h1, hr⟩ := Rd.runs_bind hr
    obtain ⟨_, L5, L6, _, h0, hr⟩ := Rd.runs_bind hr
    obtain ⟨b, L3, L4, _, h2, hr⟩ := Rd.runs_bind hr
    obtain ⟨rfl, _⟩ := hr
    simp only [okRes, Bool.and_eq_true] at ho
    obtain ⟨us, hag, hcs⟩ := agg_cells ha.1 ho.1
    obtain ⟨k1, k2⟩ := takeRes_sound hm ha.2 ho.2 h2 hs (fun p hp => hsub p (List.mem_append_right _ hp))
    obtain ⟨P, hP⟩ := feet_ex hm
    obtain ⟨F, Gs, c1, c2, c3⟩ := Cs.chill_sound hm hP hcs h1
    obtain ⟨d1, d2, d3, d4⟩ := claims_count hm hP (Rd.runs_need h0).1 c3
    rw [← c2] at d1 d4
    have et : tsOf g (goneOf a.2 ++ b.2) = tsOf g b.2 := by
      show (goneOf a.2 ++ b.2).flatMap (tops1 g) = _
      rw [List.flatMap_append, show (goneOf a.2).flatMap (tops1 g) = [] from d2, List.nil_append]; rfl
    refine ⟨⟨u, rvals, us, nsOf en g (goneOf a.2), nsOf en g b.2, rfl, hag, List.flatMap_append, ?_, ?_⟩, d3.append k2⟩
    · refine ⟨F, ?_, fun q hq => hs.old q (d4 q hq), d1⟩
      show Cs.Rep w c (Tup.hd c (rsCs rs) (Tup.mk c (rsCs rs) a.1 b.1)) us F; rw [Tup.hd_mk]; exact c1
    · show ResAt I w rs (Tup.tl c (rsCs rs) (Tup.mk c (rsCs rs) a.1 b.1)) rvals (tsOf g (goneOf a.2 ++ b.2)) _; rw [Tup.tl_mk, et]; exact k1
  | .cold _ _ :: _, [], _, _, _, _, _, hr, _, _, _ => hr.elim
  | .val _ _ _ :: _, [], _, _, _, _, _, hr, _, _, _ => hr.elim
  | .ptr _ _ :: _, [], _, _, _, _, _, hr, _, _, _ => hr.elim
  | [], _ :: _, _, _, _, _, _, hr, _, _, _ => hr.elim
def Blks (g : Gh) : Nat → List PSig → List Nat → Prop
  | _, [], bs => bs = []
  | i, .val .. :: ps, bs => Blks g (i + 1) ps bs
  | i, .ptr .. :: ps, bs => ∃ b bs', bs = b :: bs' ∧ g.loc (64 * i + 1) = .pointer (some ⟨b, 0, none⟩) ∧ Blks g (i + 1) ps bs'
theorem takeOut_sound (hm : Mem en g w) : ∀ {ps : List PSig} {rs : List RSig} {i : Nat} {vs : List AV} {rvals : List Value} {y : Tup (outCs ps rs) × List (Name × Entry)} {L : List Name}, All2 (AVRep (dom en) g w) vs rvals → okRes rs vs = true → (takeOut i ps rs vs).Runs (find en) y L →
    ∀ {used : List (Name × Entry)}, Still en g I used [] → (∀ p ∈ y.2, p ∈ used) → ∃ bs, OutsAt I w ps rs y.1 bs rvals (tsOf g y.2) (nsOf en g y.2) ∧ UsedAny en y.2 ∧ Blks g i ps bs
  | [], rs, i, vs, rvals, y, L, ha, ho, hr, used, hs, hsub => by
    obtain ⟨k1, k2⟩ := takeRes_sound hm ha ho hr hs hsub
    exact ⟨[], ⟨rfl, k1⟩, k2, rfl⟩
  | .val agg c mv :: ps, rs, i, vs, rvals, y, L, ha, ho, hr, used, hs, hsub => takeOut_sound (ps := ps) (i := i + 1) hm ha ho hr hs hsub
  | .ptr c own :: ps, rs, i, vs, rvals, y, L, ha, ho, hr, used, hs, hsub => by
    simp only [takeOut] at hr
    obtain ⟨L', _, hr⟩ := hr
    dsimp only at hr
    split at hr
    · rename_i cs hn
      obtain ⟨a, L1, L2, _, h1, hr⟩ := Rd.runs_bind hr
      obtain ⟨b, L3, L4, _, h2, hr⟩ := Rd.runs_bind hr
      obtain ⟨rfl, _⟩ := hr
      obtain ⟨bs, k1, k2, k3⟩ := takeOut_sound hm ha ho h2 hs (fun p hp => hsub p (List.mem_cons_of_mem _ (List.mem_append_right _ hp)))
      obtain ⟨blk, us, e1, e2, e3, e4⟩ := hm.rep (64 * i + 1) _ hn
      obtain ⟨k4, k5⟩ := into_csIn hm e4 h1 hs (fun p hp => hsub p (List.mem_cons_of_mem _ (List.mem_append_left _ hp)))
      refine ⟨blk :: bs, ⟨blk, bs, us, tsOf g a.2, tsOf g b.2, nsOf en g a.2, nsOf en g b.2, rfl, e3, ?_, ?_, ?_, ?_⟩, ?_, blk, bs, rfl, e2, k3⟩
      · show ((64 * i + 1, Entry.gone) :: (a.2 ++ b.2)).flatMap (tops1 g) = _
        rw [List.flatMap_cons, List.flatMap_append]; simp [tops1, e1, tsOf]
      · show ((64 * i + 1, Entry.gone) :: (a.2 ++ b.2)).flatMap (nests1 en g) = _
        rw [List.flatMap_cons, List.flatMap_append]; simp [nests1, hn, nsOf]
      · show CsIn I w own c (Tup.hd c (outCs ps rs) (Tup.mk c (outCs ps rs) a.1 b.1)) us _ _; rw [Tup.hd_mk]; exact k4
      · show OutsAt I w ps rs (Tup.tl c (outCs ps rs) (Tup.mk c (outCs ps rs) a.1 b.1)) bs rvals _ _; rw [Tup.tl_mk]; exact k1
      · intro p hp
        rcases List.mem_cons.1 hp with rfl | hp
        · exact .inr (.inl ⟨rfl, cs, hn⟩)
        · exact (k5.append k2) p hp
    · exact hr.elim
end Go.V
namespace Go.V
set_option linter.unusedVariables false
set_option linter.unusedSimpArgs false
variable {w0 : World} {T N : Nat → Prop} {en E : List (Name × Entry)} {g g' : Gh} {w : World} {I : Nat → Prop}

theorem notin_none {l : List (Name × Entry)} {n : Name} (h : n ∉ l.map (·.1)) : find l n = none := by
  cases hf : find l n with
  | none => rfl
  | some y => exact absurd (find_in.2 (by rw [hf]; simp)) h
theorem fresh_app {l m : List (Name × Entry)} {n : Name} (h1 : n ∉ l.map (·.1)) (h2 : find m n = none) : find (l ++ m) n = none := by rw [find_skip h1]; exact h2
theorem Gave.congr {new new' : List (Name × Entry)} {ts ns : List Nat} (h : Gave w0 T N E g w new g' ts ns) (he : ∀ n, find (new ++ E) n = find (new' ++ E) n) : Gave w0 T N E g w new' g' ts ns := by
  refine ⟨h.ms.congr he, by rw [← dom_congr he]; exact h.le, h.imm, h.giv.t1, h.giv.n1, fun b hb => ?_, fun b hb => ?_, fun b hb m f hm => h.giv.tw b hb m f ((he m).trans hm)⟩
  · obtain ⟨k1, k2, k3⟩ := h.giv.tf b hb; exact ⟨k1, fun m f hm => k2 m f ((he m).trans hm), k3⟩
  · obtain ⟨k1, k2⟩ := h.giv.nf b hb; exact ⟨fun m f hm => k1 m f ((he m).trans hm), k2⟩
theorem avOf_rep0 {D : Name → Prop} {agg : Bool} {cs : List Cell} {v : Value} {us : List Value} (h : All2 (CellRep D g w) cs us) (ha : isAgg agg v us) : AVRep0 D g w (avOf agg cs) v := by
  have := avOf_rep h ha
  cases hx : avOf agg cs with
  | cell c => rw [hx] at this; exact this
  | agg ds => rw [hx] at this; exact this
  | tup l =>
    exfalso
    cases agg with
    | true => cases cs <;> cases hx
    | false => cases cs with
      | nil => cases hx
      | cons c cs => cases cs <;> cases hx
theorem giveRes_gave : ∀ (rs : List RSig) (n : Name) (x : Tup (rsCs rs)) (rvals : List Value) (ts ns ts' ns' : List Nat) (g : Gh), MS w0 T N E g w → Givable w0 T N E g (ts ++ ts') (ns ++ ns') → ResAt g.I w rs x rvals ts ns → distinct (giveRes n rs x).news = true →
    (∀ p ∈ (giveRes n rs x).news, find E p.1 = none) → (giveRes n rs x).upds = [] ∧ ∃ g', Gave w0 T N E g w (giveRes n rs x).news g' ts' ns' ∧ All2 (AVRep0 (dom ((giveRes n rs x).news ++ E)) g' w) (giveRes n rs x).vals rvals
  | [], n, x, rvals, ts, ns, ts', ns', g, h, hv, ha, hd, hf => by
    obtain ⟨rfl, rfl, rfl⟩ := ha
    exact ⟨rfl, g, Gave.refl h (by simpa using hv), trivial⟩
  | .val agg c own :: rs, n, x, rvals, ts, ns, ts', ns', g, h, hv, ha, hd, hf => by
    obtain ⟨v, vs', us, t1, t2, n1, n2, rfl, hag, rfl, rfl, hin, ha⟩ := ha
    obtain ⟨d1, d2, d3⟩ := distinct_append (l := (giveC own n c (Tup.hd c (rsCs rs) x)).2) (m := (giveRes (n + 64) rs (Tup.tl c (rsCs rs) x)).news) hd
    obtain ⟨e0, g1, k1, k2⟩ := giveRes_gave rs (n + 64) (Tup.tl c (rsCs rs) x) vs' t2 n2 (t1 ++ ts') (n1 ++ ns') g h (hv.mono (fun b => by simp only [List.count_append]; omega) (fun b => by simp only [List.count_append]; omega)) ha d2 (fun p hp => hf p (List.mem_append_right _ hp))
    obtain ⟨g2, k4, k5⟩ := giveC_put (n := n) k1.ms (hin.imm fun b hb => by rw [k1.imm]; exact hb) k1.giv (fun p hp => fresh_app (d3 p.1 (List.mem_map_of_mem hp)) (hf p (List.mem_append_left _ hp))) d1
    have e : (giveRes n (.val agg c own :: rs) x).news ++ E = (giveC own n c (Tup.hd c (rsCs rs) x)).2 ++ ((giveRes (n + 64) rs (Tup.tl c (rsCs rs) x)).news ++ E) := List.append_assoc _ _ _
    refine ⟨e0, g2, k1.trans k4, ?_, ?_⟩
    · rw [e]; exact avOf_rep0 k5 hag
    · rw [e]; exact All2.imp (fun _ _ => AVRep0.mono k4.le) k2
  | .cold agg c :: rs, n, x, rvals, ts, ns, ts', ns', g, h, hv, ha, hd, hf => by
    obtain ⟨v, vs', us, n1, n2, rfl, hag, rfl, ⟨F, hF, hFI, hFc⟩, ha⟩ := ha
    obtain ⟨d1, d2, d3⟩ := distinct_append (l := (Cs.giveF n c (Tup.hd c (rsCs rs) x)).2) (m := (giveRes (n + 64) rs (Tup.tl c (rsCs rs) x)).news) hd
    obtain ⟨e0, g1, k1, k2⟩ := giveRes_gave rs (n + 64) (Tup.tl c (rsCs rs) x) vs' ts n2 ts' (F ++ ns') g h (hv.mono (fun b => Nat.le_refl _) (fun b => by have := hFc b; simp only [List.count_append]; omega)) ha d2 (fun p hp => hf p (List.mem_append_right _ hp))
    obtain ⟨g2, k4, k5⟩ := Cs.giveF_put (n := n) k1.ms hF (fun b hb => by rw [k1.imm]; exact hFI b hb) k1.giv (fun p hp => fresh_app (d3 p.1 (List.mem_map_of_mem hp)) (hf p (List.mem_append_left _ hp))) d1
    have e : (giveRes n (.cold agg c :: rs) x).news ++ E = (Cs.giveF n c (Tup.hd c (rsCs rs) x)).2 ++ ((giveRes (n + 64) rs (Tup.tl c (rsCs rs) x)).news ++ E) := List.append_assoc _ _ _
    refine ⟨e0, g2, k1.trans k4, ?_, ?_⟩
    · rw [e]; exact avOf_rep0 k5 hag
    · rw [e]; exact All2.imp (fun _ _ => AVRep0.mono k4.le) k2
  | .ptr c own :: rs, n, x, rvals, ts, ns, ts', ns', g, h, hv, ha, hd, hf => by
    obtain ⟨b, vs', us, t1, t2, n1, n2, rfl, hob, rfl, rfl, hin, ha⟩ := ha
    obtain ⟨d0, hd⟩ := distinct_cons (n := n) (l := (giveC own (n + 1) c (Tup.hd c (rsCs rs) x)).2 ++ (giveRes (n + 64) rs (Tup.tl c (rsCs rs) x)).news) hd
    obtain ⟨d1, d2, d3⟩ := distinct_append hd
    have hf1 : ∀ p ∈ (giveC own (n + 1) c (Tup.hd c (rsCs rs) x)).2 ++ (giveRes (n + 64) rs (Tup.tl c (rsCs rs) x)).news, find E p.1 = none := fun p hp => hf p (List.mem_cons_of_mem _ hp)
    obtain ⟨e0, g1, k1, k2⟩ := giveRes_gave rs (n + 64) (Tup.tl c (rsCs rs) x) vs' t2 n2 (t1 ++ (b :: ts')) (n1 ++ ns') g h (hv.mono (fun b' => by simp only [List.count_append, List.count_cons, List.cons_append]; omega) (fun b => by simp only [List.count_append]; omega)) ha d2 (fun p hp => hf1 p (List.mem_append_right _ hp))
    obtain ⟨g2, k4, k5⟩ := giveC_put (n := n + 1) k1.ms (hin.imm fun b hb => by rw [k1.imm]; exact hb) k1.giv (fun p hp => fresh_app (d3 p.1 (List.mem_map_of_mem hp)) (hf1 p (List.mem_append_left _ hp))) d1
    have k6 := k1.trans k4
    have hfree : find ((giveC own (n + 1) c (Tup.hd c (rsCs rs) x)).2 ++ (giveRes (n + 64) rs (Tup.tl c (rsCs rs) x)).news ++ E) n = none := fresh_app d0 (hf (n, _) List.mem_cons_self)
    obtain ⟨g3, k7, k8⟩ := box_put k6.ms hob (by rw [List.append_assoc]; exact k5) k6.giv (fun hd => absurd hfree hd) (fun e he => by rw [hfree] at he; cases he)
    refine ⟨e0, g3, k6.trans k7, ⟨dom_cons.2 (.inl rfl), b, k8, rfl⟩, ?_⟩
    refine All2.imp (fun _ _ hx => ?_) k2
    have h1 := AVRep0.mono k4.le hx
    rw [← List.append_assoc] at h1
    exact AVRep0.mono k7.le h1
theorem giveRes_upds : ∀ (rs : List RSig) (n : Name) (x : Tup (rsCs rs)), (giveRes n rs x).upds = []
  | [], _, _ => rfl
  | .val _ c _ :: rs, n, x => giveRes_upds rs (n + 64) (Tup.tl c (rsCs rs) x)
  | .ptr c _ :: rs, n, x => giveRes_upds rs (n + 64) (Tup.tl c (rsCs rs) x)
  | .cold _ c :: rs, n, x => giveRes_upds rs (n + 64) (Tup.tl c (rsCs rs) x)
theorem giveOut_upds : ∀ (ps : List PSig) (rs : List RSig) (n : Name) (bs : List Name) (x : Tup (outCs ps rs)), ∀ p ∈ (giveOut n ps rs bs x).upds, p.1 ∈ bs
  | [], rs, n, bs, x, p, hp => by
    have : (giveOut n [] rs bs x).upds = [] := giveRes_upds rs n x
    rw [this] at hp; simp at hp
  | .val .. :: ps, rs, n, bs, x, p, hp => giveOut_upds ps rs n bs x p hp
  | .ptr c own :: ps, rs, n, [], x, p, hp => by simp [giveOut] at hp
  | .ptr c own :: ps, rs, n, b :: bs, x, p, hp => by
    have hp : p ∈ (b, Entry.box (giveC own n c (Tup.hd c (outCs ps rs) x)).1) :: (giveOut (n + 64) ps rs bs (Tup.tl c (outCs ps rs) x)).upds := hp
    rcases List.mem_cons.1 hp with rfl | hp
    · exact List.mem_cons_self
    · exact List.mem_cons_of_mem _ (giveOut_upds ps rs (n + 64) bs _ p hp)
theorem find_push {l m : List (Name × Entry)} {b : Name} {x : Entry} (h : b ∉ l.map (·.1)) (n : Name) : find ((b, x) :: (l ++ m)) n = find (l ++ (b, x) :: m) n := by
  rw [find_cons, find_append, find_append, find_cons]
  by_cases hbn : b = n
  · subst hbn; rw [if_pos rfl, if_pos rfl, notin_none h]
  · rw [if_neg hbn, if_neg hbn]
def PtrOk (E : List (Name × Entry)) (g : Gh) (n : Name) (b : Nat) : Prop := find E n = some .gone ∧ g.loc n = .pointer (some ⟨b, 0, none⟩)
theorem giveOut_gave : ∀ (ps : List PSig) (rs : List RSig) (n : Name) (x : Tup (outCs ps rs)) (nm : List Name) (bs : List Nat) (rvals : List Value) (ts ns ts' ns' : List Nat) (g : Gh), MS w0 T N E g w → Givable w0 T N E g (ts ++ ts') (ns ++ ns') → OutsAt g.I w ps rs x bs rvals ts ns →
    All2 (PtrOk E g) nm bs → nm.Nodup → distinct (giveOut n ps rs nm x).news = true → (∀ p ∈ (giveOut n ps rs nm x).news, find E p.1 = none) →
    ∃ g', Gave w0 T N E g w ((giveOut n ps rs nm x).news ++ (giveOut n ps rs nm x).upds) g' ts' ns' ∧ All2 (AVRep0 (dom ((giveOut n ps rs nm x).news ++ (giveOut n ps rs nm x).upds ++ E)) g' w) (giveOut n ps rs nm x).vals rvals
  | [], rs, n, x, nm, bs, rvals, ts, ns, ts', ns', g, h, hv, ha, hp, hnd, hd, hf => by
    obtain ⟨rfl, ha⟩ := ha
    have hd : distinct (giveRes n rs x).news = true := hd
    have hf : ∀ p ∈ (giveRes n rs x).news, find E p.1 = none := hf
    obtain ⟨e0, g', k1, k2⟩ := giveRes_gave rs n x rvals ts ns ts' ns' g h hv ha hd hf
    have e : (giveRes n rs x).news ++ (giveRes n rs x).upds = (giveRes n rs x).news := by rw [e0, List.append_nil]
    refine ⟨g', ?_, ?_⟩
    · show Gave w0 T N E g w ((giveRes n rs x).news ++ (giveRes n rs x).upds) g' ts' ns'; rw [e]; exact k1
    · show All2 (AVRep0 (dom ((giveRes n rs x).news ++ (giveRes n rs x).upds ++ E)) g' w) (giveRes n rs x).vals rvals; rw [e]; exact k2
  | .val agg c mv :: ps, rs, n, x, nm, bs, rvals, ts, ns, ts', ns', g, h, hv, ha, hp, hnd, hd, hf => giveOut_gave ps rs n x nm bs rvals ts ns ts' ns' g h hv ha hp hnd hd hf
  | .ptr c own :: ps, rs, n, x, [], bs, rvals, ts, ns, ts', ns', g, h, hv, ha, hp, hnd, hd, hf => by
    obtain ⟨b, bs', us, t1, t2, n1, n2, rfl, _⟩ := ha
    exact hp.elim
  | .ptr c own :: ps, rs, n, x, m :: nm, bs, rvals, ts, ns, ts', ns', g, h, hv, ha, hp, hnd, hd, hf => by
    obtain ⟨b, bs', us, t1, t2, n1, n2, rfl, hob, rfl, rfl, hin, ha⟩ := ha
    obtain ⟨⟨hp1, hp2⟩, hp⟩ := hp
    rw [List.nodup_cons] at hnd
    let r := giveOut (n + 64) ps rs nm (Tup.tl c (outCs ps rs) x)
    let q := giveC own n c (Tup.hd c (outCs ps rs) x)
    have hd : distinct (q.2 ++ r.news) = true := hd
    have hf : ∀ p ∈ q.2 ++ r.news, find E p.1 = none := hf
    obtain ⟨d1, d2, d3⟩ := distinct_append hd
    obtain ⟨g1, k1, k2⟩ := giveOut_gave ps rs (n + 64) (Tup.tl c (outCs ps rs) x) nm bs' rvals t2 n2 (t1 ++ (b :: ts')) (n1 ++ ns') g h (hv.mono (fun b' => by simp only [List.count_append, List.count_cons, List.cons_append]; omega) (fun b => by simp only [List.count_append]; omega)) ha hp hnd.2 d2 (fun p hp => hf p (List.mem_append_right _ hp))
    have hup : ∀ p ∈ r.upds, p.1 ∈ nm := giveOut_upds ps rs (n + 64) nm _
    have hnmE : ∀ k ∈ nm, ∃ y, find E k = some y := by
      intro k hk
      have key : ∀ (l : List Name) (bl : List Nat), All2 (PtrOk E g) l bl → k ∈ l → ∃ y, find E k = some y := by
        intro l
        induction l with
        | nil => intro bl _ hk; simp at hk
        | cons a l ih => intro bl hl hk; cases bl with
          | nil => exact hl.elim
          | cons c bl =>
            rcases List.mem_cons.1 hk with rfl | hk
            · exact ⟨_, hl.1.1⟩
            · exact ih bl hl.2 hk
      exact key nm bs' hp hk
    have hnotup : ∀ p : Name × Entry, find E p.1 = none → p.1 ∉ r.upds.map (·.1) := by
      intro p hpE hm
      obtain ⟨u, hu, he⟩ := List.mem_map.1 hm
      obtain ⟨y, hy⟩ := hnmE u.1 (hup u hu)
      rw [he, hpE] at hy; cases hy
    obtain ⟨g2, k4, k5⟩ := giveC_put (n := n) k1.ms (hin.imm fun b hb => by rw [k1.imm]; exact hb) k1.giv (fun p hp => by
      have hpE := hf p (List.mem_append_left _ hp)
      refine fresh_app ?_ hpE
      rw [List.map_append, List.mem_append, not_or]
      exact ⟨d3 p.1 (List.mem_map_of_mem hp), hnotup p hpE⟩) d1
    have k6 := k1.trans k4
    have hmE : dom E m := by unfold dom; rw [hp1]; simp
    have hmq : m ∉ q.2.map (·.1) := fun hm => by
      obtain ⟨u, hu, he⟩ := List.mem_map.1 hm
      have := hf u (List.mem_append_left _ hu); rw [he, hp1] at this; cases this
    have hmr : m ∉ r.news.map (·.1) := fun hm => by
      obtain ⟨u, hu, he⟩ := List.mem_map.1 hm
      have := hf u (List.mem_append_right _ hu); rw [he, hp1] at this; cases this
    have hmu : m ∉ r.upds.map (·.1) := fun hm => by
      obtain ⟨u, hu, he⟩ := List.mem_map.1 hm
      exact hnd.1 (he ▸ hup u hu)
    have hfind : find (q.2 ++ (r.news ++ r.upds) ++ E) m = some .gone := by
      rw [find_skip]
      · exact hp1
      · rw [List.map_append, List.map_append, List.mem_append, List.mem_append, not_or, not_or]; exact ⟨hmq, hmr, hmu⟩
    obtain ⟨g3, k7, k8⟩ := box_put (n := m) k6.ms hob (by rw [List.append_assoc]; exact k5) k6.giv (fun _ => (k6.le.loc m hmE).trans hp2) (fun e he => by
      have : find (q.2 ++ (r.news ++ r.upds) ++ E) m = some e := he
      rw [hfind] at this; cases this; rfl)
    have hcong : ∀ k, find ([(m, .box q.1)] ++ (q.2 ++ (r.news ++ r.upds)) ++ E) k = find ((q.2 ++ r.news ++ ((m, .box q.1) :: r.upds)) ++ E) k := by
      intro k
      have := find_push (l := q.2 ++ r.news) (m := r.upds ++ E) (b := m) (x := .box q.1) (by rw [List.map_append, List.mem_append, not_or]; exact ⟨hmq, hmr⟩) k
      simpa [List.append_assoc] using this
    refine ⟨g3, (k6.trans k7).congr hcong, ?_⟩
    show All2 (AVRep0 (dom ((q.2 ++ r.news ++ ((m, .box q.1) :: r.upds)) ++ E)) g3 w) r.vals rvals
    rw [← dom_congr hcong]
    refine All2.imp (fun _ _ hx => ?_) k2
    have h1 := AVRep0.mono k4.le hx
    rw [← List.append_assoc] at h1
    exact AVRep0.mono k7.le h1
end Go.V
namespace Go.V
set_option linter.unusedVariables false
set_option linter.unusedSimpArgs false
variable {w0 : World} {T N : Nat → Prop} {en E : List (Name × Entry)} {g g' : Gh} {w w' : World} {I : Nat → Prop}

theorem MS.useAny (h : MS w0 T N en g w) : ∀ {used : List (Name × Entry)}, UsedAny en used → distinct used = true →
    ∃ g1, MS w0 T N (used ++ en) g1 w ∧ Le (dom en) g w (dom (used ++ en)) g1 w ∧ g1.loc = g.loc ∧ g1.esz = g.esz ∧ g1.top = g.top ∧ g1.nest = g.nest ∧ (∀ b, g1.I b ↔ g.I b ∨ ∃ p ∈ used, (∃ e xs, p.2 = .fwd e xs) ∧ g.top p.1 = some b)
  | [], _, _ => ⟨g, h, Le.refl _ _ _, rfl, rfl, rfl, rfl, fun b => ⟨.inl, fun k => k.elim id fun ⟨p, hp, _⟩ => by simp at hp⟩⟩
  | (n, x) :: used, hu, hd => by
    obtain ⟨h1, h2⟩ := distinct_cons hd
    obtain ⟨g1, hM, hle, e1, e2, e3, e4, hI⟩ := h.useAny (used := used) (fun p hp => hu p (List.mem_cons_of_mem _ hp)) h2
    have hgone : x = .gone → dom en n → ∃ g1, MS w0 T N ((n, x) :: used ++ en) g1 w ∧ Le (dom en) g w (dom ((n, x) :: used ++ en)) g1 w ∧ g1.loc = g.loc ∧ g1.esz = g.esz ∧ g1.top = g.top ∧ g1.nest = g.nest ∧ (∀ b, g1.I b ↔ g.I b ∨ ∃ p ∈ (n, x) :: used, (∃ e xs, p.2 = .fwd e xs) ∧ g.top p.1 = some b) := by
      intro hx hdn
      subst hx
      obtain ⟨hM2, hle2⟩ := hM.gone (hle.dom n hdn)
      refine ⟨g1, hM2, hle.trans hle2, e1, e2, e3, e4, fun b => (hI b).trans ⟨?_, ?_⟩⟩
      · rintro (k | ⟨p, hp, k⟩)
        · exact .inl k
        · exact .inr ⟨p, List.mem_cons_of_mem _ hp, k⟩
      · rintro (k | ⟨p, hp, ⟨e, xs, k⟩, k'⟩)
        · exact .inl k
        · rcases List.mem_cons.1 hp with rfl | hp
          · cases k
          · exact .inr ⟨p, hp, ⟨e, xs, k⟩, k'⟩
    rcases hu (n, x) List.mem_cons_self with ⟨hx, e, m, xs, hn⟩ | ⟨hx, cs, hn⟩ | ⟨e, m, xs, hn, hx⟩ | ⟨e, xs, hn, hx | hx⟩
    rotate_left 3
    · exact hgone hx (by unfold dom; rw [show find en n = _ from hn]; simp)
    · obtain rfl : x = .fwd e xs := hx
      obtain ⟨hM2, hle2⟩ := hM.fwdZ (n := n) ((find_skip h1).trans hn)
      refine ⟨g1, hM2, hle.trans hle2, e1, e2, e3, e4, fun b => (hI b).trans ⟨?_, ?_⟩⟩
      · rintro (k | ⟨p, hp, k⟩)
        · exact .inl k
        · exact .inr ⟨p, List.mem_cons_of_mem _ hp, k⟩
      · rintro (k | ⟨p, hp, k, k'⟩)
        · exact .inl k
        · rcases List.mem_cons.1 hp with rfl | hp
          · have ht : g.top n = some b := k'
            rw [(h.mem.rep n _ hn).2.1] at ht; cases ht
          · exact .inr ⟨p, hp, k, k'⟩
    · exact hgone hx (by unfold dom; rw [show find en n = _ from hn]; simp)
    · exact hgone hx (by unfold dom; rw [show find en n = _ from hn]; simp)
    · obtain rfl : x = .fwd e xs := hx
      obtain ⟨g2, hM2, hle2, f1, f2, f3, f4, hI2⟩ := hM.fwd (n := n) ((find_skip h1).trans hn)
      refine ⟨g2, hM2, hle.trans hle2, f1.trans e1, f2.trans e2, f3.trans e3, f4.trans e4, fun b => ?_⟩
      rw [hI2, hI, e3]
      constructor
      · rintro ((k | ⟨p, hp, k⟩) | k)
        · exact .inl k
        · exact .inr ⟨p, List.mem_cons_of_mem _ hp, k⟩
        · exact .inr ⟨_, List.mem_cons_self, ⟨e, xs, rfl⟩, k⟩
      · rintro (k | ⟨p, hp, k, k'⟩)
        · exact .inl (.inl k)
        · rcases List.mem_cons.1 hp with rfl | hp
          · exact .inr k'
          · exact .inl (.inr ⟨p, hp, k, k'⟩)
theorem mem_tsOf {used : List (Name × Entry)} {b : Nat} (h : b ∈ tsOf g used) : ∃ p ∈ used, p.2 = .gone ∧ g.top p.1 = some b := by
  obtain ⟨p, hp, hb⟩ := List.mem_flatMap.1 h
  unfold tops1 at hb
  split at hb
  · rename_i hx; exact ⟨p, hp, hx, by simpa using hb⟩
  · simp at hb
theorem mem_nsOf {used : List (Name × Entry)} {b : Nat} (h : b ∈ nsOf en g used) : ∃ p ∈ used, p.2 = .gone ∧ (∃ f, find en p.1 = some f ∧ f.deep = true) ∧ b ∈ g.nest p.1 := by
  obtain ⟨p, hp, hb⟩ := List.mem_flatMap.1 h
  unfold nests1 at hb
  split at hb
  · rename_i hx
    split at hb
    · rename_i e xs hn; exact ⟨p, hp, hx, ⟨_, hn, rfl⟩, hb⟩
    · rename_i e xs hn; exact ⟨p, hp, hx, ⟨_, hn, rfl⟩, hb⟩
    · simp at hb
  · simp at hb
theorem used_dom {used : List (Name × Entry)} (hu : UsedAny en used) {p : Name × Entry} (hp : p ∈ used) : dom en p.1 := by
  unfold dom
  rcases hu p hp with ⟨_, e, m, xs, hn⟩ | ⟨_, cs, hn⟩ | ⟨e, m, xs, hn, _⟩ | ⟨e, xs, hn, _⟩ <;> (rw [hn]; simp)
theorem used_alive (hm : Mem en g w) {used : List (Name × Entry)} (hu : UsedAny en used) {p : Name × Entry} (hp : p ∈ used) {b : Nat} (ht : g.top p.1 = some b) : ∃ f, find en p.1 = some f ∧ f.alive = true := by
  rcases hu p hp with ⟨_, e, m, xs, hn⟩ | ⟨_, cs, hn⟩ | ⟨e, m, xs, hn, _⟩ | ⟨e, xs, hn, _⟩
  · exact ⟨_, hn, rfl⟩
  · exact ⟨_, hn, rfl⟩
  · exact ⟨_, hn, rfl⟩
  · rw [(hm.rep p.1 _ hn).2.1] at ht; cases ht
theorem tsOf_once (hm : Mem en g w) : ∀ {used : List (Name × Entry)}, UsedAny en used → distinct used = true → Once (tsOf g used)
  | [], _, _ => fun b => by simp [tsOf]
  | (n, x) :: used, hu, hd => by
    obtain ⟨h1, h2⟩ := distinct_cons hd
    have ih := tsOf_once hm (used := used) (fun p hp => hu p (List.mem_cons_of_mem _ hp)) h2
    rw [once_iff] at ih ⊢
    show ((n, x) :: used).flatMap (tops1 g) |>.Nodup
    rw [List.flatMap_cons, List.nodup_append]
    refine ⟨?_, ih, fun b hb c hc hbc => ?_⟩
    · unfold tops1; split
      · cases g.top (n, x).1 <;> simp
      · simp
    · subst hbc
      obtain ⟨p, hp, _, hpt⟩ := mem_tsOf hc
      have hb' : b ∈ tsOf g [(n, x)] := by unfold tsOf; simpa using hb
      obtain ⟨q, hq, _, hqt⟩ := mem_tsOf hb'
      rw [List.mem_singleton] at hq; subst hq
      obtain ⟨f, hf, hfa⟩ := used_alive hm hu (List.mem_cons_self) hqt
      obtain ⟨f', hf', hfa'⟩ := used_alive hm hu (List.mem_cons_of_mem _ hp) hpt
      have := hm.apart n p.1 f f' b hf hf' hfa hfa' hqt hpt
      exact h1 (this ▸ List.mem_map_of_mem hp)
theorem nsOf_once (hm : Mem en g w) : ∀ {used : List (Name × Entry)}, UsedAny en used → distinct used = true → Once (nsOf en g used)
  | [], _, _ => fun b => by simp [nsOf]
  | (n, x) :: used, hu, hd => by
    obtain ⟨h1, h2⟩ := distinct_cons hd
    have ih := nsOf_once hm (used := used) (fun p hp => hu p (List.mem_cons_of_mem _ hp)) h2
    rw [once_iff] at ih ⊢
    show ((n, x) :: used).flatMap (nests1 en g) |>.Nodup
    rw [List.flatMap_cons, List.nodup_append]
    refine ⟨?_, ih, fun b hb c hc hbc => ?_⟩
    · unfold nests1; split
      · rename_i hx
        split
        · rename_i e xs hn
          obtain ⟨_, _, _, hnd⟩ := root_of hm hn
          exact hnd rfl
        · rename_i e xs hn
          exact (hm.rep _ _ hn).2.2.2.2
        · simp
      · simp
    · subst hbc
      obtain ⟨p, hp, hpg, hpr, hpt⟩ := mem_nsOf hc
      have hb' : b ∈ nsOf en g [(n, x)] := by unfold nsOf; simpa using hb
      obtain ⟨q, hq, hqg, hqr, hqt⟩ := mem_nsOf hb'
      rw [List.mem_singleton] at hq; subst hq
      obtain ⟨f1, hn1, hd1⟩ := hqr
      obtain ⟨f2, hn2, hd2⟩ := hpr
      have hne : n ≠ p.1 := fun e => h1 (e ▸ List.mem_map_of_mem hp)
      exact hm.nests n p.1 _ _ hn1 hn2 hd1 hd2 hne b hqt hpt
theorem Cs.Gifts.flat : {c : Cs} → {x : c.den} → {us : List Value} → {ts ns : List Nat} → c.hasSl = false → Cs.Gifts I w c x us ts ns → ns = []
  | .one c, x, us, ts, ns, h, ⟨v, h1, h2⟩ => by
    cases c with
    | sl e => simp [Cs.hasSl, CT.isSl] at h
    | _ => exact h2.2.1
  | .cons c r, x, us, ts, ns, h, ⟨v, vs', t1, t2, n1, n2, h1, h2, h3, h4, h5⟩ => by
    simp only [Cs.hasSl, Bool.or_eq_false_iff] at h
    have := Cs.Gifts.flat h.2 h5
    subst this; subst h3
    cases c with
    | sl e => simp [CT.isSl] at h
    | _ => rw [List.append_nil]; exact h4.2.1
theorem CsIn.shift {I' : Nat → Prop} {own : Option Bool} {c : Cs} {x : c.den} {us : List Value} {ts ns : List Nat} (hn : ∀ b ∈ ns, I b → I' b) (hs : (notAll own = true → c.hasSl = false) ∨ ∀ b, I b → I' b) (h : CsIn I w own c x us ts ns) : CsIn I' w own c x us ts ns := by
  rcases h with ⟨m, ns', rfl, h2, hm⟩ | ⟨rfl, h2, h3, F, h4, h5⟩
  · refine .inl ⟨m, ns', rfl, ?_, hm⟩
    have hn2 : ∀ b ∈ ns', I b → I' b := by
      cases m with
      | true => rw [hm rfl]; exact hn
      | false =>
        rcases hs with hs | hs
        · rw [h2.flat (hs rfl)]; simp
        · exact fun b _ => hs b
    clear hm hn
    have hc : ∀ {c : CT} {x : c.den} {v : Value} {ts ns : List Nat}, (∀ b ∈ ns, I b → I' b) → CT.Gifts I w c x v ts ns → CT.Gifts I' w c x v ts ns := by
      intro c x v ts ns hn h
      cases c with
      | sl e => obtain ⟨tp, h1, h2, h3⟩ := h; exact ⟨tp, h1, h2, fun b hb => hn b hb (h3 b hb)⟩
      | _ => exact h
    clear hs
    revert x us ts ns'
    induction c using Cs.rec (motive_1 := fun _ => True) with
    | one c _ => intro x us ts ns h hn; obtain ⟨v, h1, h2⟩ := h; exact ⟨v, h1, hc hn h2⟩
    | cons c r _ ih =>
      intro x us ts ns h hn
      obtain ⟨v, vs', t1, t2, n1, n2, h1, h2, h3, h4, h5⟩ := h
      subst h3
      exact ⟨v, vs', t1, t2, n1, n2, h1, h2, rfl, hc (fun b hb => hn b (List.mem_append_left _ hb)) h4, ih _ h5 (fun b hb => hn b (List.mem_append_right _ hb))⟩
    | _ => trivial
  · refine .inr ⟨rfl, h2, h3, F, h4, fun b hb => ?_⟩
    rcases hs with hs | hs
    · rw [h4.flat (hs rfl)] at hb; simp at hb
    · exact hs b (h5 b hb)
theorem ResAt.shift {I' : Nat → Prop} : ∀ {rs : List RSig} {x : Tup (rsCs rs)} {vs : List Value} {ts ns : List Nat}, (∀ b ∈ ns, I b → I' b) → (rs.any RSig.sh = false ∨ ∀ b, I b → I' b) → ResAt I w rs x vs ts ns → ResAt I' w rs x vs ts ns
  | [], _, _, _, _, _, _, h => h
  | .val agg c own :: rs, x, vs, ts, ns, hn, hs, ⟨v, vs', us, t1, t2, n1, n2, h1, h2, h3, h4, h5, h6⟩ => by
    subst h4
    refine ⟨v, vs', us, t1, t2, n1, n2, h1, h2, h3, rfl, h5.shift (fun b hb => hn b (List.mem_append_left _ hb)) (hs.imp (fun hs ho => ?_) id), ResAt.shift (fun b hb => hn b (List.mem_append_right _ hb)) (hs.imp (fun hs => ?_) id) h6⟩
    · simp only [List.any_cons, Bool.or_eq_false_iff, RSig.sh, ho, Bool.true_and] at hs; exact hs.1
    · simp only [List.any_cons, Bool.or_eq_false_iff] at hs; exact hs.2
  | .cold agg c :: rs, x, vs, ts, ns, hn, hs, ⟨v, vs', us, n1, n2, h1, h2, h4, ⟨F, hF, hFI, hFc⟩, h6⟩ => by
    subst h4
    refine ⟨v, vs', us, n1, n2, h1, h2, rfl, ⟨F, hF, fun b hb => hn b (List.mem_append_left _ (mem_count1 (hFc b) hb)) (hFI b hb), hFc⟩, ResAt.shift (fun b hb => hn b (List.mem_append_right _ hb)) (hs.imp (fun hs => ?_) id) h6⟩
    simp only [List.any_cons, Bool.or_eq_false_iff] at hs; exact hs.2
  | .ptr c own :: rs, x, vs, ts, ns, hn, hs, ⟨v, vs', us, t1, t2, n1, n2, h1, h2, h3, h4, h5, h6⟩ => by
    subst h4
    refine ⟨v, vs', us, t1, t2, n1, n2, h1, h2, h3, rfl, h5.shift (fun b hb => hn b (List.mem_append_left _ hb)) (hs.imp (fun hs ho => ?_) id), ResAt.shift (fun b hb => hn b (List.mem_append_right _ hb)) (hs.imp (fun hs => ?_) id) h6⟩
    · simp only [List.any_cons, Bool.or_eq_false_iff, RSig.sh, ho, Bool.true_and] at hs; exact hs.1
    · simp only [List.any_cons, Bool.or_eq_false_iff] at hs; exact hs.2
theorem OutsAt.shift {I' : Nat → Prop} : ∀ {ps : List PSig} {rs : List RSig} {x : Tup (outCs ps rs)} {bs : List Nat} {vs : List Value} {ts ns : List Nat}, (∀ b ∈ ns, I b → I' b) → (sharing ps rs = false ∨ ∀ b, I b → I' b) → OutsAt I w ps rs x bs vs ts ns → OutsAt I' w ps rs x bs vs ts ns
  | [], rs, x, bs, vs, ts, ns, hn, hs, ⟨h1, h2⟩ => ⟨h1, h2.shift hn (hs.imp (fun hs => by simpa [sharing] using hs) id)⟩
  | .val agg c mv :: ps, rs, x, bs, vs, ts, ns, hn, hs, h => OutsAt.shift (ps := ps) hn (hs.imp (fun hs => by simpa [sharing, PSig.sh] using hs) id) h
  | .ptr c own :: ps, rs, x, bs, vs, ts, ns, hn, hs, ⟨b, bs', us, t1, t2, n1, n2, h1, h2, h3, h4, h5, h6⟩ => by
    subst h4
    refine ⟨b, bs', us, t1, t2, n1, n2, h1, h2, h3, rfl, h5.shift (fun b hb => hn b (List.mem_append_left _ hb)) (hs.imp (fun hs ho => ?_) id), OutsAt.shift (fun b hb => hn b (List.mem_append_right _ hb)) (hs.imp (fun hs => ?_) id) h6⟩
    · simp only [sharing, List.any_cons, Bool.or_eq_false_iff, PSig.sh, ho, Bool.true_and] at hs; exact hs.1.1
    · simp only [sharing, List.any_cons, Bool.or_eq_false_iff] at hs ⊢; exact ⟨hs.1.2, hs.2⟩
end Go.V
namespace Go.V
set_option linter.unusedVariables false
set_option linter.unusedSimpArgs false
variable {P : Program} {G : Env} {w0 : World} {T N : Nat → Prop} {en E : List (Name × Entry)} {g g' : Gh} {w w' : World} {I : Nat → Prop} {nt : Nat} {ann : List (Nat × LoopAnn)}

theorem entry_closed : ∀ (ps : List PSig) (i : Nat) (x : Tup (psCs ps)), (∀ t v, find (entry i ps x).1 t = some v → AVIn0 (dom (entry i ps x).2) v) ∧ (∀ n cs, (n, Entry.box cs) ∈ (entry i ps x).2 → ∀ c ∈ cs, CIn (dom (entry i ps x).2) c)
  | [], i, x => ⟨(fun t v h => by cases h), (fun n cs h => by cases h)⟩
  | .val agg c mv :: ps, i, x => by
    obtain ⟨k1, k2⟩ := entry_closed ps (i + 1) (Tup.tl c (psCs ps) x)
    obtain ⟨k3, k4⟩ := giveC_in (mvO mv) (64 * i + 1) c (Tup.hd c (psCs ps) x)
    rw [entry_val]
    refine ⟨fun t v h => ?_, fun n cs h => ?_⟩
    · rw [find_cons] at h
      split at h
      · cases h
        exact avOf_in fun d hd => (k4 d hd).mono fun n hn => dom_left hn
      · exact (k1 t v h).mono fun n hn => dom_right hn
    · rcases List.mem_append.1 h with h | h
      · exact absurd h (k3 n cs)
      · exact fun d hd => (k2 n cs h d hd).mono fun n hn => dom_right hn
  | .ptr c own :: ps, i, x => by
    obtain ⟨k1, k2⟩ := entry_closed ps (i + 1) (Tup.tl c (psCs ps) x)
    obtain ⟨k3, k4⟩ := giveC_in own (64 * i + 2) c (Tup.hd c (psCs ps) x)
    rw [entry_ptr]
    refine ⟨fun t v h => ?_, fun n cs h => ?_⟩
    · rw [find_cons] at h
      split at h
      · cases h
        intro n hn
        simp [Cell.refs] at hn; subst hn
        exact dom_head
      · exact (k1 t v h).mono fun n hn => dom_cons.2 (.inr (dom_right hn))
    · rcases List.mem_cons.1 h with h | h
      · cases h
        exact fun d hd => (k4 d hd).mono fun n hn => dom_cons.2 (.inr (dom_left hn))
      · rcases List.mem_append.1 h with h | h
        · exact absurd h (k3 n cs)
        · exact fun d hd => (k2 n cs h d hd).mono fun n hn => dom_cons.2 (.inr (dom_right hn))
theorem bind_ro {F : Name → Option Entry} : ∀ {ps : List PSig} {args : List AV} {b : Bound (psCs ps)} {L : List Name}, (bindArgs true ps args).Runs F b L → b.ro = []
  | [], [], b, L, hr => by obtain ⟨rfl, _⟩ := hr; rfl
  | .val agg c false :: ps, v :: args, b, L, hr => by
    simp only [bindArgs] at hr
    obtain ⟨_, L5, L6, _, h0, hr⟩ := Rd.runs_bind hr
    obtain ⟨a, L1, L2, _, h1, hr⟩ := Rd.runs_bind hr
    obtain ⟨b', L3, L4, _, h2, hr⟩ := Rd.runs_bind hr
    obtain ⟨rfl, _⟩ := hr
    have ih := bind_ro h2
    exact ih
  | .val agg c true :: ps, v :: args, b, L, hr => by
    simp only [bindArgs] at hr
    obtain ⟨_, L5, L6, _, h0, hr⟩ := Rd.runs_bind hr
    obtain ⟨a, L1, L2, _, h1, hr⟩ := Rd.runs_bind hr
    obtain ⟨b', L3, L4, _, h2, hr⟩ := Rd.runs_bind hr
    obtain ⟨rfl, _⟩ := hr
    have ih := bind_ro h2
    exact ih
  | .ptr c own :: ps, .cell (.box n 0) :: args, b, L, hr => by
    simp only [bindArgs] at hr
    obtain ⟨L', _, hr⟩ := hr
    dsimp only at hr
    split at hr
    · obtain ⟨a, L1, L2, _, h1, hr⟩ := Rd.runs_bind hr
      obtain ⟨b', L3, L4, _, h2, hr⟩ := Rd.runs_bind hr
      obtain ⟨rfl, _⟩ := hr
      have ih := bind_ro h2
      exact ih
    · exact hr.elim
theorem bind_ptrs {F : Name → Option Entry} {sl : Bool} : ∀ {ps : List PSig} {args : List AV} {b : Bound (psCs ps)} {L : List Name}, (bindArgs sl ps args).Runs F b L → distinct b.used = true → b.ptrs.Nodup ∧ ∀ n ∈ b.ptrs, n ∈ b.used.map (·.1)
  | [], [], b, L, hr, _ => by obtain ⟨rfl, _⟩ := hr; exact ⟨List.nodup_nil, by simp⟩
  | .val agg c false :: ps, v :: args, b, L, hr, hd => by
    simp only [bindArgs] at hr
    obtain ⟨_, L5, L6, _, h0, hr⟩ := Rd.runs_bind hr
    obtain ⟨a, L1, L2, _, h1, hr⟩ := Rd.runs_bind hr
    obtain ⟨b', L3, L4, _, h2, hr⟩ := Rd.runs_bind hr
    obtain ⟨rfl, _⟩ := hr
    obtain ⟨k1, k2⟩ := bind_ptrs h2 (distinct_append hd).2.1
    exact ⟨k1, fun n hn => by rw [List.map_append]; exact List.mem_append_right _ (k2 n hn)⟩
  | .val agg c true :: ps, v :: args, b, L, hr, hd => by
    simp only [bindArgs] at hr
    obtain ⟨_, L5, L6, _, h0, hr⟩ := Rd.runs_bind hr
    obtain ⟨a, L1, L2, _, h1, hr⟩ := Rd.runs_bind hr
    obtain ⟨b', L3, L4, _, h2, hr⟩ := Rd.runs_bind hr
    obtain ⟨rfl, _⟩ := hr
    obtain ⟨k1, k2⟩ := bind_ptrs h2 (distinct_append hd).2.1
    exact ⟨k1, fun n hn => by rw [List.map_append]; exact List.mem_append_right _ (k2 n hn)⟩
  | .ptr c own :: ps, .cell (.box n 0) :: args, b, L, hr, hd => by
    simp only [bindArgs] at hr
    obtain ⟨L', _, hr⟩ := hr
    dsimp only at hr
    split at hr
    · obtain ⟨a, L1, L2, _, h1, hr⟩ := Rd.runs_bind hr
      obtain ⟨b', L3, L4, _, h2, hr⟩ := Rd.runs_bind hr
      obtain ⟨rfl, _⟩ := hr
      obtain ⟨d1, d2⟩ := distinct_cons hd
      obtain ⟨k1, k2⟩ := bind_ptrs h2 (distinct_append d2).2.1
      refine ⟨List.nodup_cons.2 ⟨fun hn => d1 (by rw [List.map_append]; exact List.mem_append_right _ (k2 n hn)), k1⟩, fun m hm => ?_⟩
      rcases List.mem_cons.1 hm with rfl | hm
      · simp
      · simp only [List.map_cons, List.map_append]; exact List.mem_cons_of_mem _ (List.mem_append_right _ (k2 m hm))
    · exact hr.elim
theorem ptrs_ok {used : List (Name × Entry)} {g1 g2 gc gf : Gh} {D D' : Name → Prop} {wc wf : World} (hd : distinct used = true) (hloc : ∀ n, g2.loc n = g.loc n) (hle : Le D gc wc D' gf wf) : ∀ {ps : List PSig} {i : Nat} {vals : List Value} {nm : List Name} {bs : List Nat}, PtrsOf en g used ps vals nm → PLoc D gc i ps vals → Blks gf i ps bs →
    All2 (PtrOk (used ++ en) g2) nm bs
  | [], i, vals, nm, bs, h1, _, h3 => by obtain rfl := h1; obtain rfl := h3; exact trivial
  | .val .. :: ps, i, v :: vals, nm, bs, h1, h2, h3 => ptrs_ok (ps := ps) (i := i + 1) (vals := vals) (g1 := g1) hd hloc hle h1 h2 h3
  | .ptr .. :: ps, i, v :: vals, nm, bs, h1, h2, h3 => by
    obtain ⟨n, ns', rfl, k1, k2, k3, k4⟩ := h1
    obtain ⟨⟨l1, l2⟩, l3⟩ := h2
    obtain ⟨b, bs', rfl, m1, m2⟩ := h3
    refine ⟨⟨?_, ?_⟩, ptrs_ok (g1 := g1) hd hloc hle k4 l3 m2⟩
    · rw [find_hit (List.mem_map_of_mem k1 : n ∈ used.map (·.1))]; exact distinct_mem hd k1
    · rw [hloc, k3, ← l2, ← hle.loc _ l1]; exact m1
  | .val .. :: _, _, [], _, _, _, h2, _ => h2.elim
  | .ptr .. :: _, _, [], _, _, _, h2, _ => h2.elim
theorem vals_pack {D : Name → Prop} {l : List AV} {rvals : List Value} (h : All2 (AVRep0 D g w) l rvals) : AVRep D g w (valsAV l) (pack rvals) := by
  have h0 : ∀ {x : AV} {v : Value}, AVRep0 D g w x v → AVRep D g w x v := by
    intro x v h
    cases x with
    | cell c => exact h
    | agg cs => exact h
    | tup l => exact h.elim
  match l, rvals, h with
  | [], [], _ => exact ⟨#[], rfl, trivial⟩
  | [x], [v], h => exact h0 h.1
  | x :: y :: l, v :: u :: r, h => exact ⟨(v :: u :: r).toArray, rfl, h⟩
theorem MS.begin (g : Gh) (Tc Nc : Nat → Prop) (h1 : ∀ b, g.I b → b < w.heap.size) (h2 : ∀ b, g.I b → oldI w Nc b) (hs : Lay w Tc) : MS w Tc Nc [] g w :=
  ⟨⟨(fun n e h => by cases h), (fun n m e f b h => by cases h), (fun n e b h => by cases h), (fun n m e f h => by cases h), h1, fun n h => absurd rfl h, (fun n e b h => by cases h)⟩,
    ⟨rfl, rfl, rfl, Nat.le_refl _, fun b _ _ => rfl, (fun n e b h => by cases h), (fun n e b h => by cases h), fun b hb => .inr (.inr (h2 b hb)), (fun n e b h => by cases h), hs⟩⟩
theorem MS.start (Ic : Nat → Prop) (Tc Nc : Nat → Prop) (h1 : ∀ b, Ic b → b < w.heap.size) (h2 : ∀ b, Ic b → oldI w Nc b) (hs : Lay w Tc) : MS w Tc Nc [] ⟨Ic, fun _ => .slice none 0 0, fun _ => 0, fun _ => none, fun _ => [], fun _ => []⟩ w :=
  MS.begin _ Tc Nc h1 h2 hs
end Go.V
namespace Go.V
set_option linter.unusedVariables false
set_option linter.unusedSimpArgs false
variable {P : Program} {G : Env} {w0 : World} {T N : Nat → Prop} {en E : List (Name × Entry)} {g g' : Gh} {w w' : World} {I : Nat → Prop} {nt : Nat} {ann : List (Nat × LoopAnn)}

theorem back_in {ps : List PSig} {rs : List RSig} {used : List (Name × Entry)} {ro nm : List Name} {ts ns : List Nat} {vals : List Value} {D : Name → Prop} {gc gf : Gh} {Sf : St} {g1 : Gh} {Tc Nc : Nat → Prop} {Ic : Nat → Prop} {uid : Name}
    (hM : MS w0 T N en g w) (hu : UsedAny en used) (hd : distinct used = true) (hro : ∀ n ∈ ro, find used n = none) (hsl : sharing ps rs = true → ro = [])
    (hM1 : MS w0 T N (used ++ en) g1 w) (hle1 : Le (dom en) g w (dom (used ++ en)) g1 w) (e1 : g1.loc = g.loc) (e3 : g1.top = g.top) (e4 : g1.nest = g.nest) (hI1 : ∀ b, g1.I b ↔ g.I b ∨ ∃ p ∈ used, (∃ e xs, p.2 = .fwd e xs) ∧ g.top p.1 = some b)
    (hts : ts = tsOf g used) (hns : ns = nsOf en g used) (hIc : ∀ b, Ic b ↔ g1.I b ∨ ∃ n ∈ ro, ∃ f, find en n = some f ∧ f.alive = true ∧ g.top n = some b) (hTc : ∀ b, Tc b ↔ b ∈ ts) (hNc : ∀ b, Nc b ↔ b ∈ ns ∨ ∃ c, b = w.heap.size + c ∧ Ic c)
    (hnames : PtrsOf en g used ps vals nm) (hnd : nm.Nodup) (hploc : PLoc D gc 0 ps vals) (hgc : gc.I = Ic) (hMf : MS w Tc Nc Sf.en gf w') (hle : Le D gc w (dom Sf.en) gf w')
    {vs : List AV} {rvals : List Value} {r : Tup (outCs ps rs)} {ents : List (Name × Entry)} {L : List Name} (hrv : All2 (AVRep (dom Sf.en) gf w') vs rvals) (hok : okRes rs vs = true) (hto : (takeOut 0 ps rs vs).Runs (find Sf.en) (r, ents) L) (hde : distinct ents = true)
    (hdist : distinct (giveOut uid ps rs nm r).news = true) (hnew : ∀ p ∈ (giveOut uid ps rs nm r).news, find en p.1 = none) :
    ∃ g', MS w0 T N ((giveOut uid ps rs nm r).news ++ ((giveOut uid ps rs nm r).upds ++ used) ++ en) g' w' ∧ Le (dom en) g w (dom ((giveOut uid ps rs nm r).news ++ ((giveOut uid ps rs nm r).upds ++ used) ++ en)) g' w' ∧
      AVRep (dom ((giveOut uid ps rs nm r).news ++ ((giveOut uid ps rs nm r).upds ++ used) ++ en)) g' w' (valsAV (giveOut uid ps rs nm r).vals) (pack rvals) := by
  have hM1I : ∀ b, g1.I b → b < w.heap.size := hM1.mem.old
  -- what was handed over
  have htsU : ∀ b ∈ ts, b < w.heap.size ∧ ¬ g1.I b ∧ ∃ p ∈ used, p.2 = .gone ∧ g.top p.1 = some b := by
    intro b hb
    rw [hts] at hb
    obtain ⟨p, hp, hpg, hpt⟩ := mem_tsOf hb
    obtain ⟨f, hf, hfa⟩ := used_alive hM.mem hu hp hpt
    refine ⟨(hM.mem.rep p.1 f hf).top_lt hfa hpt, fun hI => ?_, p, hp, hpg, hpt⟩
    rcases (hI1 b).1 hI with h | ⟨q, hq, ⟨e, xs, hqe⟩, hqt⟩
    · exact hM.mem.topI p.1 f b hf hfa hpt h
    · obtain ⟨f', hf', hfa'⟩ := used_alive hM.mem hu hq hqt
      have := hM.mem.apart p.1 q.1 f f' b hf hf' hfa hfa' hpt hqt
      have h1 := distinct_mem hd hp
      have h2 := distinct_mem hd hq
      rw [this, h2] at h1
      rw [hpg, hqe] at h1; cases h1
  have hnsU : ∀ b ∈ ns, g.I b ∧ ∃ p ∈ used, (∃ f, find en p.1 = some f ∧ f.deep = true) ∧ b ∈ g.nest p.1 := by
    intro b hb
    rw [hns] at hb
    obtain ⟨p, hp, hpg, ⟨f, hn, hfd⟩, hpt⟩ := mem_nsOf hb
    exact ⟨(deep_I hM.mem hn hfd).1 b hpt, p, hp, ⟨f, hn, hfd⟩, hpt⟩
  have hgI : ∀ b, g.I b → g1.I b := fun b hb => (hI1 b).2 (.inl hb)
  -- what stays the caller's
  have halive : ∀ n f, find (used ++ en) n = some f → f.alive = true ∨ f.deep = true → find en n = some f ∧ n ∉ used.map (·.1) := by
    intro n f hf ha
    by_cases hn : n ∈ used.map (·.1)
    · exfalso
      rw [find_hit hn] at hf
      have hp := find_mem_pair hf
      have hfe : f = .gone ∨ ∃ e xs, f = .fwd e xs := by
        rcases hu (n, f) hp with ⟨h, _⟩ | ⟨h, _⟩ | ⟨e, m, xs, _, h⟩ | ⟨e, xs, _, h | h⟩
        · exact .inl h
        · exact .inl h
        · exact .inr ⟨e, xs, h⟩
        · exact .inl h
        · exact .inr ⟨e, xs, h⟩
      rcases hfe with rfl | ⟨e, xs, rfl⟩ <;> first | (rcases ha with ha | ha <;> cases ha; done) | (cases ha; done)
    · rw [find_skip hn] at hf; exact ⟨hf, hn⟩
  have hlent : ∀ b, (∃ n ∈ ro, ∃ f, find en n = some f ∧ f.alive = true ∧ g.top n = some b) → b < w.heap.size ∧ b ∉ ts ∧ ¬ g1.I b := by
    rintro b ⟨n, hn, f, hf, hfa, ht⟩
    have hnu : n ∉ used.map (·.1) := fun hm => by
      have := hro n hn
      exact absurd (find_in.1 hm) (by rw [this]; simp)
    refine ⟨(hM.mem.rep n f hf).top_lt hfa ht, fun hb => ?_, fun hI => ?_⟩
    · obtain ⟨_, _, p, hp, _, hpt⟩ := htsU b hb
      obtain ⟨f', hf', hfa'⟩ := used_alive hM.mem hu hp hpt
      have := hM.mem.apart n p.1 f f' b hf hf' hfa hfa' ht hpt
      exact hnu (this ▸ List.mem_map_of_mem hp)
    · rcases (hI1 b).1 hI with h | ⟨q, hq, _, hqt⟩
      · exact hM.mem.topI n f b hf hfa ht h
      · obtain ⟨f', hf', hfa'⟩ := used_alive hM.mem hu hq hqt
        have := hM.mem.apart n q.1 f f' b hf hf' hfa hfa' ht hqt
        exact hnu (this ▸ List.mem_map_of_mem hq)
  have haliveT : ∀ n f b, find (used ++ en) n = some f → f.alive = true → g1.top n = some b → b < w.heap.size ∧ b ∉ ts ∧ ¬ g1.I b := by
    intro n f b hf ha ht
    obtain ⟨hfe, hnu⟩ := halive n f hf (.inl ha)
    rw [e3] at ht
    refine ⟨(hM.mem.rep n f hfe).top_lt ha ht, fun hb => ?_, fun hI => hM1.mem.topI n f b hf ha (by rw [e3]; exact ht) hI⟩
    obtain ⟨_, _, p, hp, _, hpt⟩ := htsU b hb
    obtain ⟨f', hf', hfa'⟩ := used_alive hM.mem hu hp hpt
    have := hM.mem.apart n p.1 f f' b hfe hf' ha hfa' ht hpt
    exact hnu (this ▸ List.mem_map_of_mem hp)
  have htree : ∀ n f, find (used ++ en) n = some f → f.isTree = true → find en n = some f ∧ n ∉ used.map (·.1) := by
    intro n f hf ha
    by_cases hn : n ∈ used.map (·.1)
    · exfalso
      rw [find_hit hn] at hf
      have hp := find_mem_pair hf
      have hfe : f = .gone ∨ ∃ e xs, f = .fwd e xs := by
        rcases hu (n, f) hp with ⟨h, _⟩ | ⟨h, _⟩ | ⟨e, m, xs, _, h⟩ | ⟨e, xs, _, h | h⟩
        · exact .inl h
        · exact .inl h
        · exact .inr ⟨e, xs, h⟩
        · exact .inl h
        · exact .inr ⟨e, xs, h⟩
      rcases hfe with rfl | ⟨e, xs, rfl⟩ <;> first | (rcases ha with ha | ha <;> cases ha; done) | (cases ha; done)
    · rw [find_skip hn] at hf; exact ⟨hf, hn⟩
  have htreeT : ∀ n f b, find (used ++ en) n = some f → f.isTree = true → b ∈ g1.nest n → b < w.heap.size ∧ b ∉ ts := by
    intro n f b hf ht hb
    obtain ⟨hfe, hnu⟩ := htree n f hf ht
    rw [e4] at hb
    refine ⟨tree_lt (hM.mem.rep n f hfe) ht hb, fun hbt => ?_⟩
    obtain ⟨_, _, p, hp, _, hpt⟩ := htsU b hbt
    obtain ⟨f', hf', hfa'⟩ := used_alive hM.mem hu hp hpt
    exact (hM.mem.wood n f b hfe ht hb).2.1 p.1 f' hf' hfa' hpt
  -- the function's end
  let I3 : Nat → Prop := fun b => gf.I b ∨ ∃ p ∈ ents, (∃ e xs, p.2 = .fwd e xs) ∧ gf.top p.1 = some b
  obtain ⟨bs, houts, hue, hbl⟩ := takeOut_sound (I := I3) hMf.mem hrv hok hto (used := ents) ⟨fun b hb => .inl hb, fun p hp e xs he b hb => .inr ⟨p, hp, ⟨e, xs, he⟩, hb⟩, fun n hn => by simp at hn⟩ (fun p hp => hp)
  obtain ⟨g3, hM3, hle3, _, _, e33, e34, hI3⟩ := hMf.useAny hue hde
  have hI3' : ∀ b, I3 b ↔ g3.I b := fun b => (hI3 b).symm
  have houts : OutsAt I3 w' ps rs r bs rvals (tsOf gf ents) (nsOf Sf.en gf ents) := houts
  have hsize := hMf.since.size
  have hmem : ∀ b, b < w.heap.size → b ∉ ts → w'.heap[b]? = w.heap[b]? := fun b hb hn => hMf.since.mem b hb fun hT => hn ((hTc b).1 hT)
  have himm : ∀ b, I3 b → w.heap.size ≤ b ∨ b ∈ ts ∨ Ic b := by
    intro b hb
    rcases hM3.since.imm b ((hI3' b).1 hb) with h | h | h
    · exact .inl h
    · exact .inr (.inl ((hTc b).1 h))
    · rcases (hNc _).1 h with h | ⟨c, hc, hI⟩
      · have := hM1I _ (hgI _ (hnsU _ h).1); omega
      · obtain rfl : b = c := by omega
        exact .inr (.inr hI)
  -- the caller's memory now
  let lent : Nat → Prop := fun b => ∃ n ∈ ro, ∃ f, find en n = some f ∧ f.alive = true ∧ g.top n = some b
  let J : Nat → Prop := fun b => I3 b ∧ ¬ lent b
  obtain ⟨hM2, hle2⟩ := hM1.world (w' := w') (fun b hb => hmem b (hM1I b hb) fun ht => (htsU b ht).2.1 hb) (fun n f b hf ha hb => hmem b (haliveT n f b hf ha hb).1 (haliveT n f b hf ha hb).2.1) hMf.since.os hMf.since.out hMf.since.tape hsize
    (fun b hb hT => hmem b (Nat.lt_of_lt_of_le hb hM1.since.size) fun ht => by
      obtain ⟨_, _, p, hp, _, hpt⟩ := htsU b ht
      obtain ⟨f, hf, hfa⟩ := used_alive hM.mem hu hp hpt
      rcases hM.since.tops p.1 f b hf hfa hpt with h | h
      · omega
      · exact hT h)
    (fun n f b hf ht hb => by
      obtain ⟨k1, k2⟩ := htreeT n f b hf ht hb
      exact hmem b k1 k2)
  have htsT : ∀ b ∈ ts, w0.heap.size ≤ b ∨ T b := by
    intro b hb
    obtain ⟨_, _, p, hp, _, hpt⟩ := htsU b hb
    obtain ⟨f, hf, hfa⟩ := used_alive hM.mem hu hp hpt
    exact hM.since.tops p.1 f b hf hfa hpt
  obtain ⟨hM4, hle4⟩ := hM2.freeze J (fun b hb => hM3.mem.old b ((hI3' b).1 hb.1))
    (fun n f b hf ha hb hJ => by
      obtain ⟨k1, k2, k3⟩ := haliveT n f b hf ha hb
      rcases himm b hJ.1 with h | h | h
      · omega
      · exact k2 h
      · rcases (hIc b).1 h with h | h
        · exact k3 h
        · exact hJ.2 h)
    (fun n f b hf ht hb hJ => by
      obtain ⟨k1, k2⟩ := htreeT n f b hf ht hb
      rcases himm b hJ.1 with h | h | h
      · omega
      · exact k2 h
      · rcases (hIc b).1 h with h | h
        · exact (hM1.mem.wood n f b hf ht hb).1 h
        · exact hJ.2 h)
    (fun b hJ => by
      rcases himm b hJ.1 with h | h | h
      · exact .inl (Nat.le_trans hM1.since.size h)
      · exact (htsT b h).imp id .inl
      · rcases (hIc b).1 h with h | h
        · exact hM1.since.imm b h
        · exact absurd h hJ.2)
  let g2 : Gh := { g1 with I := fun b => g1.I b ∨ J b }
  -- what is given
  have hts3 : ∀ b ∈ tsOf gf ents, ¬ I3 b ∧ (w.heap.size ≤ b ∨ b ∈ ts) := by
    intro b hb
    obtain ⟨p, hp, hpg, hpt⟩ := mem_tsOf hb
    obtain ⟨f, hf, hfa⟩ := used_alive hMf.mem hue hp hpt
    refine ⟨fun hI => ?_, (hMf.since.tops p.1 f b hf hfa hpt).imp id (hTc b).1⟩
    rcases hI with h | ⟨q, hq, ⟨e, xs, hqe⟩, hqt⟩
    · exact hMf.mem.topI p.1 f b hf hfa hpt h
    · obtain ⟨f', hf', hfa'⟩ := used_alive hMf.mem hue hq hqt
      have := hMf.mem.apart p.1 q.1 f f' b hf hf' hfa hfa' hpt hqt
      have h1 := distinct_mem hde hp
      have h2 := distinct_mem hde hq
      rw [this, h2] at h1
      rw [hpg, hqe] at h1; cases h1
  have hns3 : ∀ b ∈ nsOf Sf.en gf ents, w.heap.size ≤ b ∨ b ∈ ts ∨ b ∈ ns := by
    intro b hb
    obtain ⟨p, hp, hpg, ⟨f, hn, hfd⟩, hpt⟩ := mem_nsOf hb
    rcases hMf.since.nests p.1 _ b hn hfd hpt with h | h | h
    · exact .inl h
    · exact .inr (.inl ((hTc b).1 h))
    · rcases (hNc b).1 h with h | ⟨c, hc, _⟩
      · exact .inr (.inr h)
      · exact .inl (by omega)
  have hIcI3 : ∀ b, g1.I b → I3 b := fun b hb => .inl (hle.imm b (by rw [hgc]; exact (hIc b).2 (.inl hb)))
  have hgiv : Givable w0 T N (used ++ en) g2 (tsOf gf ents ++ []) (nsOf Sf.en gf ents ++ []) := by
    rw [List.append_nil, List.append_nil]
    refine ⟨tsOf_once hMf.mem hue hde, nsOf_once hMf.mem hue hde, fun b hb => ?_, fun b hb => ?_, fun b hb m f hf ht hbm => ?_⟩
    rotate_left 2
    · obtain ⟨k1, k2⟩ := hts3 b hb
      have hbm : b ∈ g1.nest m := hbm
      obtain ⟨j1, j2⟩ := htreeT m f b hf ht hbm
      rcases k2 with h | h
      · omega
      · exact j2 h
    · obtain ⟨k1, k2⟩ := hts3 b hb
      refine ⟨fun hI => hI.elim (fun h => k1 (hIcI3 b h)) (fun h => k1 h.1), fun m f hf ha ht => ?_, k2.elim (fun h => .inl (Nat.le_trans hM1.since.size h)) (htsT b)⟩
      obtain ⟨j1, j2, _⟩ := haliveT m f b hf ha ht
      rcases k2 with h | h
      · omega
      · exact j2 h
    · have k2 := hns3 b hb
      refine ⟨fun m f hf hfd hbm => ?_, ?_⟩
      · obtain ⟨hfe, hnu⟩ := halive m f hf (.inr hfd)
        have hbm : b ∈ g.nest m := by have : b ∈ g1.nest m := hbm; rw [e4] at this; exact this
        have hbI : g.I b := (deep_I hM.mem hfe hfd).1 b hbm
        rcases k2 with h | h | h
        · have := hM1I b (hgI b hbI); omega
        · exact (htsU b h).2.1 (hgI b hbI)
        · obtain ⟨_, p, hp, ⟨f2, hn, hd2⟩, hpb⟩ := hnsU b h
          have hne : m ≠ p.1 := fun h => hnu (h ▸ List.mem_map_of_mem hp)
          exact hM.mem.nests m p.1 f _ hfe hn hfd hd2 hne b hbm hpb
      · rcases k2 with h | h | h
        · exact .inl (Nat.le_trans hM1.since.size h)
        · exact (htsT b h).imp id .inl
        · obtain ⟨_, p, hp, ⟨f2, hn, hd2⟩, hpb⟩ := hnsU b h
          exact hM.since.nests p.1 _ b hn hd2 hpb
  have hlentns : ∀ b ∈ nsOf Sf.en gf ents, ¬ lent b := by
    intro b hb hl
    obtain ⟨j1, j2, j3⟩ := hlent b hl
    rcases hns3 b hb with h | h | h
    · omega
    · exact j2 h
    · exact j3 (hgI b (hnsU b h).1)
  have houts2 : OutsAt g2.I w' ps rs r bs rvals (tsOf gf ents) (nsOf Sf.en gf ents) := by
    refine houts.shift (fun b hb hI => .inr ⟨hI, hlentns b hb⟩) ?_
    cases hs : sharing ps rs with
    | false => exact .inl rfl
    | true =>
      refine .inr fun b hb => .inr ⟨hb, fun ⟨n, hn, _⟩ => ?_⟩
      rw [hsl hs] at hn; simp at hn
  have hptr := ptrs_ok (en := en) (g := g) (g1 := g1) (g2 := g2) hd (fun n => congrFun e1 n) hle hnames hploc hbl
  have hfresh : ∀ p ∈ (giveOut uid ps rs nm r).news, find (used ++ en) p.1 = none := by
    intro p hp
    refine fresh_app (fun hm => ?_) (hnew p hp)
    obtain ⟨q, hq, he⟩ := List.mem_map.1 hm
    have hdq := used_dom hu hq
    rw [he] at hdq
    exact hdq (hnew p hp)
  obtain ⟨g5, hG5, hv5⟩ := giveOut_gave ps rs uid r nm bs rvals _ _ [] [] g2 hM4 hgiv houts2 hptr hnd hdist hfresh
  have e5 : (giveOut uid ps rs nm r).news ++ ((giveOut uid ps rs nm r).upds ++ used) ++ en = (giveOut uid ps rs nm r).news ++ (giveOut uid ps rs nm r).upds ++ (used ++ en) := by simp only [List.append_assoc]
  rw [e5]
  exact ⟨g5, hG5.ms, (hle1.trans (hle2.trans hle4)).trans hG5.le, vals_pack hv5⟩
end Go.V
namespace Go.V
set_option linter.unusedVariables false
set_option linter.unusedSimpArgs false
variable {P : Program} {G : Env} {ann : List (Nat × LoopAnn)}

theorem leave_spec {G : Env} {rv : List ResultVar} {ps : List PSig} {rs : List RSig} {S : St} {r : Tup (outCs ps rs)} (h : leave G rv ps rs S = some r) :
    ∃ vs ents L, resAV G S rv = some vs ∧ distinct (S.cold (coldNames rs vs)) = true ∧ okRes rs vs = true ∧ (takeOut 0 ps rs vs).Runs (find (S.more (S.cold (coldNames rs vs))).en) (r, ents) L ∧ distinct ents = true := by
  unfold leave at h
  split at h
  · rename_i vs hvs
    cases ho : (distinct (S.cold (coldNames rs vs)) && okRes rs vs) with
    | false => rw [ho] at h; cases h
    | true =>
      rw [ho] at h
      simp only [cond_true] at h
      simp only [Bool.and_eq_true] at ho
      obtain ⟨y, L, h1, h2⟩ := Rd.run_some h
      cases hd : distinct y.2 with
      | false => rw [hd] at h2; cases h2
      | true =>
        rw [hd] at h2
        simp only [cond_true, Option.some.injEq] at h2
        exact ⟨vs, y.2, L, hvs, ho.1, ho.2, by rw [← h2]; exact h1, hd⟩
  · cases h
theorem meets_of (hG : Good P G) (hm : P.follows .mixedOrders = true) {f : FuncId} {fn : Func} {c : Code} {ps : List PSig} {rs : List RSig} (hf : P.funcs[f]? = some fn) (hn : (fn.name == "runtime.NumGoroutine") = false) (hb : fn.body = some c) :
    Meets P f ⟨ps, rs, fnDen G ann fn c ps rs⟩ := by
  refine ⟨⟨fn, c, hf, hn, hb⟩, ?_⟩
  intro w0 T N en g w uid args vals b L r hM hargs hbind hro hden hdist hnew
  simp only [Bool.and_eq_true] at hro
  obtain ⟨hd, hro⟩ := hro
  have hro : ∀ n ∈ b.ro, find b.used n = none := fun n hn => by
    have := List.all_eq_true.1 hro n hn
    cases h : find b.used n with
    | none => rfl
    | some y => rw [h] at this; cases this
  have hden : fnDen G ann fn c ps rs b.args = some r := hden
  unfold fnDen at hden
  cases hck : (below fn.ntmps c && (Nat.ble ps.length fn.ntmps && distinct (entry 0 ps b.args).2)) with
  | false => rw [hck] at hden; cases hden
  | true =>
  rw [hck] at hden
  simp only [Bool.and_eq_true, cond_true] at hck hden
  obtain ⟨hbel, _, hdis⟩ := hck
  -- the caller
  let Ic : Nat → Prop := fun b' => (g.I b' ∨ ∃ p ∈ b.used, (∃ e xs, p.2 = .fwd e xs) ∧ g.top p.1 = some b') ∨ ∃ n ∈ b.ro, ∃ f, find en n = some f ∧ f.alive = true ∧ g.top n = some b'
  obtain ⟨hat, hu, hnames⟩ := bind_args (I := Ic) hM.mem hargs hbind ⟨fun b' hb' => .inl (.inl hb'), fun p hp e xs he b' hb' => .inl (.inr ⟨p, hp, ⟨e, xs, he⟩, hb'⟩), fun n hn f b' hf ha ht => .inr ⟨n, hn, f, hf, ha, ht⟩⟩
  obtain ⟨g1, hM1, hle1, e1, e2, e3, e4, hI1⟩ := hM.useAny hu hd
  have hIc : ∀ b', Ic b' ↔ g1.I b' ∨ ∃ n ∈ b.ro, ∃ f, find en n = some f ∧ f.alive = true ∧ g.top n = some b' := fun b' => by
    constructor
    · rintro (h | h)
      · exact .inl ((hI1 b').2 h)
      · exact .inr h
    · rintro (h | h)
      · exact .inl ((hI1 b').1 h)
      · exact .inr h
  let Tc : Nat → Prop := fun b' => b' ∈ tsOf g b.used
  let Nc : Nat → Prop := fun k => k ∈ nsOf en g b.used ∨ ∃ c, k = w.heap.size + c ∧ Ic c
  have hIsz : ∀ b', Ic b' → b' < w.heap.size := fun b' h => by
    rcases (hIc b').1 h with h | ⟨n, _, f, hf, ha, ht⟩
    · exact hM1.mem.old b' h
    · exact (hM.mem.rep n f hf).top_lt ha ht
  have hMc := MS.start (w := w) Ic Tc Nc hIsz (fun b' h => .inr ⟨b', rfl, h⟩) (hM.since.lay fun b' hb' => by
    obtain ⟨p, hp, hpg, hpt⟩ := mem_tsOf hb'
    obtain ⟨f, hf, hfa⟩ := used_alive hM.mem hu hp hpt
    exact hM.since.tops p.1 f b' hf hfa hpt)
  have hgiv : Givable w Tc Nc [] ⟨Ic, fun _ => .slice none 0 0, fun _ => 0, fun _ => none, fun _ => [], fun _ => []⟩ (tsOf g b.used ++ []) (nsOf en g b.used ++ []) := by
    rw [List.append_nil, List.append_nil]
    refine ⟨tsOf_once hM.mem hu hd, nsOf_once hM.mem hu hd, fun b' hb' => ⟨fun hI => ?_, (fun m f h => by cases h), .inr hb'⟩, fun b' hb' => ⟨(fun m f h => by cases h), .inr (.inr (.inl hb'))⟩, (fun b' hb' m f h => by cases h)⟩
    obtain ⟨p, hp, hpg, hpt⟩ := mem_tsOf hb'
    obtain ⟨f, hf, hfa⟩ := used_alive hM.mem hu hp hpt
    rcases hI with (h | ⟨q, hq, ⟨e, xs, hqe⟩, hqt⟩) | ⟨n, hn, f', hf', hfa', ht⟩
    · exact hM.mem.topI p.1 f b' hf hfa hpt h
    · obtain ⟨f', hf', hfa'⟩ := used_alive hM.mem hu hq hqt
      have := hM.mem.apart p.1 q.1 f f' b' hf hf' hfa hfa' hpt hqt
      have h1 := distinct_mem hd hp
      have h2 := distinct_mem hd hq
      rw [this, h2] at h1
      rw [hpg, hqe] at h1; cases h1
    · have := hM.mem.apart p.1 n f f' b' hf hf' hfa hfa' hpt ht
      have h1 := distinct_mem hd hp
      rw [this, hro n hn] at h1; cases h1
  obtain ⟨gc, hgave, hslots, hploc⟩ := entry_gave hMc ps 0 b.args vals _ _ [] [] hgiv hat hdis
  -- the function
  have hInv : Inv w Tc Nc ⟨(entry 0 ps b.args).1, (entry 0 ps b.args).2⟩ gc w { tmps := vals.toArray ++ Array.replicate (fn.ntmps - vals.toArray.size) undef, defers := [] } := by
    refine ⟨hgave.to_nil.mem, hgave.to_nil.since, fun t => ?_, rfl⟩
    rcases hslots t with h | ⟨k, v, x, h1, h2, h3, h4⟩
    · show AVRep _ _ _ (match find (entry 0 ps b.args).1 t with | some v => v | none => .undef) _
      rw [h]; trivial
    · show AVRep _ _ _ (match find (entry 0 ps b.args).1 t with | some v => v | none => .undef) _
      rw [h3]
      obtain rfl : t = k := by omega
      have hlt : t < vals.length := (List.getElem?_eq_some_iff.1 h2).1
      have : (vals.toArray ++ Array.replicate (fn.ntmps - vals.toArray.size) undef).getD t undef = v := by
        have hv := (List.getElem?_eq_some_iff.1 h2).2
        have hsz' : t < (vals.toArray ++ Array.replicate (fn.ntmps - vals.toArray.size) undef).size := by rw [Array.size_append, List.size_toArray]; omega
        unfold Array.getD
        rw [dif_pos hsz']
        show (vals.toArray ++ Array.replicate (fn.ntmps - vals.toArray.size) undef)[t]'hsz' = v
        rw [Array.getElem_append_left (by simpa using hlt)]
        simpa using hv
      rw [this]; exact h4
  have hsz : fn.ntmps ≤ (vals.toArray ++ Array.replicate (fn.ntmps - vals.toArray.size) undef).size := by simp; omega
  have hc0 : Closed ⟨(entry 0 ps b.args).1, (entry 0 ps b.args).2⟩ := by
    obtain ⟨k1, k2⟩ := entry_closed ps 0 b.args
    refine ⟨fun t => ?_, fun n cs hn => k2 n cs (find_mem_pair hn)⟩
    show AVIn _ (match find (entry 0 ps b.args).1 t with | some v => v | none => .undef)
    cases hf : find (entry 0 ps b.args).1 t with
    | none => exact data_in rfl
    | some v =>
      have := k1 t v hf
      cases v with
      | cell c => exact this
      | agg cs => exact this
      | tup l => exact this.elim
  have key : ∀ (S' : St) (a' : Act) (w' : World), At w Tc Nc fn.ntmps (dom (entry 0 ps b.args).2) gc w S' a' w' → leave G fn.results.toList ps rs S' = some r →
      a'.defers = [] ∧ ∃ v, (results fn a'.tmps).run P w' = .ok v w' ∧ ∃ g', MS w0 T N ((giveOut uid ps rs b.ptrs r).news ++ ((giveOut uid ps rs b.ptrs r).upds ++ b.used) ++ en) g' w' ∧
          Le (dom en) g w (dom ((giveOut uid ps rs b.ptrs r).news ++ ((giveOut uid ps rs b.ptrs r).upds ++ b.used) ++ en)) g' w' ∧
          AVRep (dom ((giveOut uid ps rs b.ptrs r).news ++ ((giveOut uid ps rs b.ptrs r).upds ++ b.used) ++ en)) g' w' (valsAV (giveOut uid ps rs b.ptrs r).vals) v := by
    intro S' a' w' ⟨gf, hIf, _, hle⟩ hl
    obtain ⟨vs, ents, L', h1, h0, h2, h3, h4⟩ := leave_spec hl
    obtain ⟨rvals, h5, h6⟩ := resAV_rep hIf hG.tis h1
    refine ⟨hIf.plain, pack rvals, results_run h6, ?_⟩
    obtain ⟨gf2, hMf2, hle2⟩ := hIf.ms.coldAll (l := S'.cold (coldNames rs vs)) cold_ok h0
    exact back_in (Sf := S'.more (S'.cold (coldNames rs vs))) (Tc := Tc) (Nc := Nc) (Ic := Ic) hM hu hd hro (fun hs => by rw [hs] at hbind; exact bind_ro hbind) hM1 hle1 e1 e3 e4 hI1 rfl rfl hIc (fun _ => Iff.rfl) (fun _ => Iff.rfl) hnames (bind_ptrs hbind hd).1 hploc hgave.imm hMf2 (hle.trans hle2) (All2.imp (fun _ _ h => h.mono hle2) h5) h2 h3 h4 hdist hnew
  refine calls_of_wp hf hb (exec_wp hG hm c hbel hInv hsz hc0 hden ⟨fun S' a' w' _ _ hat hk => ?_, (fun i S' a' w' _ _ hat hk => by cases hk), fun S' a' w' _ _ hat hk => ?_⟩)
  · obtain ⟨k1, v, k2, k3⟩ := key S' a' w' hat hk
    exact ⟨k1, v, k2, k3⟩
  · obtain ⟨k1, v, k2, k3⟩ := key S' a' w' hat hk
    exact ⟨k1, v, k2, k3⟩
end Go.V
namespace Go.V
set_option linter.unusedVariables false
set_option linter.unusedSimpArgs false

mutual
/-- Whole numbers lie in their kind's range; lengths are lengths. -/
def CT.wf : (c : CT) → c.den → Prop
  | .int k, n => k.min ≤ n ∧ n ≤ k.max
  | .bool, _ => True
  | .str, s => s.length ≤ maxLen
  | .err, _ => True
  | .sl e, xs => xs.length ≤ maxLen ∧ ∀ x ∈ xs, Cs.wf e x
def Cs.wf : (e : Cs) → e.den → Prop
  | .one c, x => CT.wf c x
  | .cons c r, x => CT.wf c x.1 ∧ Cs.wf r x.2
end
def Cs.toL : Cs → List CT | .one c => [c] | .cons c r => c :: r.toL
theorem Cs.toL_length : ∀ e : Cs, e.toL.length = e.len
  | .one _ => rfl
  | .cons _ r => by simp [Cs.toL, Cs.len, Cs.toL_length r]
def sameL : List CT → List CT → Bool
  | [], [] => true
  | c :: l, d :: m => (CT.same c d).isSome && sameL l m
  | _, _ => false
theorem sameL_eq : ∀ {l m : List CT}, sameL l m = true → l = m
  | [], [], _ => rfl
  | c :: l, d :: m, h => by
    simp only [sameL, Bool.and_eq_true] at h
    cases hs : CT.same c d with
    | none => rw [hs] at h; cases h.1
    | some e => obtain ⟨rfl⟩ := e; rw [sameL_eq h.2]
  | [], _ :: _, h => by cases h
  | _ :: _, [], h => by cases h
def deepFields (ti : List (Nat × TInfo)) : List Field → Nat → Option (List CT)
  | [], _ => some []
  | f :: fs, o => cond (Nat.beq f.offset o) (match find ti f.type with | some j => (match deepFields ti fs (o + j.cs.len) with | some l => some (j.cs.toL ++ l) | none => none) | none => none) none
def deepOk (P : Program) (ti : List (Nat × TInfo)) (p : Nat × TInfo) : Bool :=
  match P.underlying p.1 with
  | some (.struct fs) => (match deepFields ti fs.toList 0 with | some l => sameL l p.2.cs.toL | none => false)
  | _ => true
def Deep (P : Program) (ti : List (Nat × TInfo)) : Prop := ∀ t i, find ti t = some i → deepOk P ti (t, i) = true
theorem Deep.of_all {P : Program} {ti : List (Nat × TInfo)} (h : ti.all (deepOk P ti) = true) : Deep P ti := fun t i hi => List.all_eq_true.1 h _ (find_mem hi)
variable {P : Program} {ti : List (Nat × TInfo)} {w : World}
def Good1 (w : World) (c : CT) (v : Value) : Prop := ∃ x F, CT.Rep w c x v F ∧ (∀ b ∈ F, b < w.heap.size) ∧ CT.wf c x
theorem good_rep : ∀ (e : Cs) (vs : List Value), All2 (Good1 w) e.toL vs → ∃ x F, Cs.Rep w e x vs F ∧ (∀ b ∈ F, b < w.heap.size) ∧ Cs.wf e x
  | .one c, [v], h => by
    obtain ⟨x, F, h1, h2, h3⟩ := h.1
    exact ⟨x, F, by simp only [Cs.Rep]; exact ⟨v, rfl, h1⟩, h2, by simp only [Cs.wf]; exact h3⟩
  | .one c, [], h => h.elim
  | .one c, _ :: _ :: _, h => h.2.elim
  | .cons c r, [], h => h.elim
  | .cons c r, v :: vs, h => by
    obtain ⟨x, F, h1, h2, h3⟩ := h.1
    obtain ⟨y, F', k1, k2, k3⟩ := good_rep r vs h.2
    refine ⟨(x, y), F ++ F', by simp only [Cs.Rep]; exact ⟨v, vs, F, F', rfl, rfl, h1, k1⟩, fun b hb => (List.mem_append.1 hb).elim (h2 b) (k2 b), by simp only [Cs.wf]; exact ⟨h3, k3⟩⟩
theorem chunks {α : Type} {n : Nat} {R : α → List Value → List Nat → Prop} {Q : α → List Nat → Prop} : ∀ (m : Nat) (vs : List Value), vs.length = m * n → (∀ i, i < m → ∃ y F, R y ((vs.drop (i * n)).take n) F ∧ Q y F) →
    ∃ xs F, xs.length = m ∧ listRep n R xs vs F ∧ (∀ x ∈ xs, ∃ G, Q x G) ∧ ∀ b ∈ F, ∃ x G, Q x G ∧ b ∈ G
  | 0, vs, h, _ => ⟨[], [], rfl, ⟨by simpa using h, rfl⟩, by simp, by simp⟩
  | m + 1, vs, h, hr => by
    obtain ⟨y, F, h1, h2⟩ := hr 0 (by omega)
    rw [Nat.zero_mul, List.drop_zero] at h1
    have hn : n ≤ vs.length := by rw [h, Nat.add_mul]; omega
    obtain ⟨xs, F', k1, k2, k3, k4⟩ := chunks (n := n) (R := R) (Q := Q) m (vs.drop n) (by rw [List.length_drop, h, Nat.add_mul]; omega) (fun i hi => by
      obtain ⟨y, F, h1, h2⟩ := hr (i + 1) (by omega)
      exact ⟨y, F, by rw [List.drop_drop]; rw [Nat.add_mul, Nat.one_mul, Nat.add_comm] at h1; exact h1, h2⟩)
    refine ⟨y :: xs, F ++ F', by simp [k1], ⟨vs.take n, vs.drop n, F, F', (List.take_append_drop n vs).symm, by rw [List.length_take]; omega, rfl, h1, k2⟩, fun x hx => ?_, fun b hb => ?_⟩
    · rcases List.mem_cons.1 hx with rfl | hx
      · exact ⟨F, h2⟩
      · exact k3 x hx
    · rcases List.mem_append.1 hb with hb | hb
      · exact ⟨y, F, h2, hb⟩
      · exact k4 b hb
theorem deepFields_good : ∀ {fs : List Field} {o : Nat} {l : List CT} {vs : List Value}, deepFields ti fs o = some l → vs.length = o + l.length →
    (∀ f ∈ fs, ∀ j, find ti f.type = some j → All2 (Good1 w) j.cs.toL ((vs.drop f.offset).take j.cs.len)) → All2 (Good1 w) l (vs.drop o)
  | [], o, l, vs, h, hl, _ => by
    cases h
    rw [List.drop_of_length_le (by simpa using Nat.le_of_eq hl)]; trivial
  | f :: fs, o, l, vs, h, hl, hg => by
    simp only [deepFields] at h
    cases ho : Nat.beq f.offset o with
    | false => rw [ho] at h; cases h
    | true =>
      rw [ho] at h
      obtain rfl := Nat.eq_of_beq_eq_true ho
      cases hj : find ti f.type with
      | none => rw [hj] at h; cases h
      | some j =>
        rw [hj] at h
        simp only [cond_true] at h
        cases hr : deepFields ti fs (f.offset + j.cs.len) with
        | none => rw [hr] at h; cases h
        | some m =>
          rw [hr] at h
          cases h
          rw [List.length_append, Cs.toL_length] at hl
          have h1 := hg f List.mem_cons_self j hj
          have h2 := deepFields_good hr (vs := vs) (by omega) (fun f' hf' => hg f' (List.mem_cons_of_mem _ hf'))
          have e : vs.drop f.offset = (vs.drop f.offset).take j.cs.len ++ vs.drop (f.offset + j.cs.len) := by
            conv => lhs; rw [← List.take_append_drop j.cs.len (vs.drop f.offset)]
            rw [List.drop_drop]
          rw [e]; exact h1.append h2
section
variable {H : Type} {enc : TypeId × Value → H} {held : Bool}
theorem TFacts.cells {t : Nat} {i : TInfo} {d : TypeInfo} {u : TypeDesc} {z : Value} (h : TFacts P ti t i d u z) : P.cellsOf t = i.cs.len := by
  simp [Program.cellsOf, h.info, h.size]
theorem cells_some {base : Nat} {a : Addr} {n : Nat} {vs : List Value} (h : w.cells? base a n = some vs) : vs.length = n ∧ ∀ k, k < n → w.cell? (a.add k) = vs[k]? := by
  unfold World.cells? at h
  split at h
  · refine ⟨by simpa using mapM_some_length h, fun k hk => ?_⟩
    exact mapM_some_get h k k (by simp [hk])
  · cases h
theorem cell_plain {a : Addr} {v : Value} (h : w.cell? a = some v) : a.spot = none ∧ ∃ c t fz, w.heap[a.block]? = some (.cells c t fz) ∧ c[a.off]? = some v := by
  unfold World.cell? at h
  split at h
  · rename_i c t fz hc
    split at h
    · cases h
    · rename_i hs
      exact ⟨by cases hsp : a.spot with
                | none => rfl
                | some _ => rw [hsp] at hs; simp at hs, c, t, fz, hc, h⟩
  · cases h
theorem trod_good (hT : Tis P ti) (hD : Deep P ti) : ∀ (fuel : Nat) (t : Nat) (i : TInfo) (cs : List Value) (x : DataW H × List MemPlace), find ti t = some i → DataW.trod enc P w 0 (fun _ => true) held fuel t cs = some x → All2 (Good1 w) i.cs.toL cs
  | 0, t, i, cs, x, hi, h => by simp [DataW.trod] at h
  | fuel + 1, t, i, cs, x, hi, h => by
    obtain ⟨d, u, z, hf⟩ := hT.facts hi
    cases ha : i.agg with
    | true =>
      obtain ⟨fs, hu, _⟩ := hf.agg ha
      have hund := hf.und
      rw [hu] at hund
      obtain ⟨xs, n, hn, _, hlen, hxs, hget⟩ := DataW.trod_struct hund h
      obtain rfl : fuel = n := by omega
      have hd := hD t i hi
      unfold deepOk at hd
      simp only [hund] at hd
      cases hdf : deepFields ti fs.toList 0 with
      | none => rw [hdf] at hd; cases hd
      | some l =>
        rw [hdf] at hd
        obtain rfl := sameL_eq hd
        have hlen' : cs.length = 0 + i.cs.toL.length := by rw [hlen, hf.cells, Cs.toL_length]; omega
        have := deepFields_good (w := w) hdf hlen' (fun f hfm j hj => by
          obtain ⟨k, hk, hkf⟩ := List.mem_iff_getElem.1 hfm
          have hfk : fs[k]? = some f := by rw [← hkf]; simp at hk ⊢
          have hg := hget k f hfk
          have hkx : k < xs.length := by rw [hxs]; simpa using hk
          rw [List.getElem?_eq_getElem hkx] at hg
          obtain ⟨d', u', z', hf'⟩ := hT.facts hj
          rw [hf'.cells] at hg
          exact trod_good hT hD fuel f.type j _ _ hj hg)
        simpa using this
    | false =>
      obtain ⟨c, hc, hs⟩ := hf.plain ha
      rw [hc]
      have hund := hf.und
      cases u <;> try (simp [scalarOk] at hs; done)
      case bool =>
        obtain ⟨b, rfl, _⟩ := DataW.trod_bool hund h
        cases c <;> simp [scalarOk] at hs
        exact ⟨⟨b, [], by simp only [CT.Rep]; exact ⟨trivial, trivial⟩, by simp, by simp only [CT.wf]⟩, trivial⟩
      case int k =>
        obtain ⟨n, rfl, _, hw⟩ := DataW.trod_int hund h
        cases c <;> simp [scalarOk] at hs
        obtain rfl := ikNat_inj hs
        simp only [Lit.wf, Bool.and_eq_true, decide_eq_true_eq] at hw
        exact ⟨⟨n, [], by simp only [CT.Rep]; exact ⟨trivial, trivial⟩, by simp, by simp only [CT.wf]; exact hw⟩, trivial⟩
      case string =>
        obtain ⟨s, rfl, _, hw⟩ := DataW.trod_string hund h
        cases c <;> simp [scalarOk] at hs
        refine ⟨⟨s.data.toList, [], by simp only [CT.Rep]; exact ⟨by simp, trivial⟩, by simp, ?_⟩, trivial⟩
        simp only [CT.wf]
        rw [Array.length_toList]; exact hw
      case interface ms =>
        cases c <;> simp [scalarOk] at hs
        unfold DataW.trod at h
        rw [hund] at h
        split at h <;> simp_all
        · exact ⟨⟨false, [], by simp only [CT.Rep]; exact ⟨trivial, .inl ⟨trivial, trivial⟩⟩, by simp, by simp only [CT.wf]⟩, trivial⟩
        · exact ⟨⟨true, [], by simp only [CT.Rep]; exact ⟨trivial, .inr ⟨trivial, _, _, rfl⟩⟩, by simp, by simp only [CT.wf]⟩, trivial⟩
      case slice e =>
        cases c <;> simp [scalarOk] at hs
        rename_i f
        obtain ⟨rfl, hs⟩ := hs
        cases hj : find ti i.elem with
        | none => rw [hj] at hs; simp at hs
        | some j =>
          rw [hj] at hs
          have hjf : j.cs = f := by
            simp only at hs
            cases hsm : Cs.same j.cs f with
            | none => rw [hsm] at hs; cases hs
            | some q => exact q.down
          subst hjf
          obtain ⟨d', u', z', hf'⟩ := hT.facts hj
          rcases DataW.trod_slice hund h with ⟨rfl, _⟩ | ⟨a, len, cap, elems, rest, n, hn, rfl, _, _, hlc, hcap, hel, hget, hsp, _⟩
          · exact ⟨⟨[], [], rep_sl.2 (.inl ⟨⟨_, rfl⟩, rfl, rfl⟩), by simp, by simp [CT.wf]⟩, trivial⟩
          obtain rfl : fuel = n := by omega
          obtain ⟨hr1, hr2⟩ := hsp rfl
          rw [hf'.cells] at hget hr2
          have hpos := Cs.len_pos j.cs
          have hall : ∀ k, k < cap → ∃ vs, w.cells? 0 (a.add (k * j.cs.len)) j.cs.len = some vs ∧ All2 (Good1 w) j.cs.toL vs := by
            intro k hk
            have key : ∀ {y : DataW H × List MemPlace}, (w.cells? 0 (a.add (k * j.cs.len)) j.cs.len).bind (DataW.trod enc P w 0 (fun _ => true) held fuel i.elem) = some y → ∃ vs, w.cells? 0 (a.add (k * j.cs.len)) j.cs.len = some vs ∧ All2 (Good1 w) j.cs.toL vs := by
              intro y hy
              rw [Option.bind_eq_some_iff] at hy
              obtain ⟨vs, h1, h2⟩ := hy
              exact ⟨vs, h1, trod_good hT hD fuel i.elem j vs _ hj h2⟩
            by_cases hkl : k < len
            · have := hget k hkl
              rw [List.getElem?_eq_getElem (by omega)] at this
              exact key this
            · have := hr2 (k - len) (by omega)
              rw [show len + (k - len) = k by omega, List.getElem?_eq_getElem (by omega)] at this
              exact key this
          by_cases hc0 : cap = 0
          · subst hc0
            obtain rfl : len = 0 := by omega
            exact ⟨⟨[], [], rep_sl.2 (.inl ⟨⟨_, rfl⟩, rfl, rfl⟩), by simp, by simp [CT.wf]⟩, trivial⟩
          obtain ⟨vs0, h00, _⟩ := hall 0 (by omega)
          obtain ⟨hl0, hg0⟩ := cells_some h00
          have h0 : w.cell? a = some (vs0[0]'(by omega)) := by
            have := hg0 0 hpos
            rw [Nat.zero_mul, List.getElem?_eq_getElem (by omega)] at this
            simpa [Addr.add] using this
          obtain ⟨hsp0, c, tc, fz, hcell, _⟩ := cell_plain h0
          obtain ⟨b, off, sp⟩ := a
          obtain rfl : sp = none := hsp0
          have hcells : ∀ k, k < cap → ∃ vs, vs.length = j.cs.len ∧ (∀ q, q < j.cs.len → c[off + k * j.cs.len + q]? = vs[q]?) ∧ All2 (Good1 w) j.cs.toL vs := by
            intro k hk
            obtain ⟨vs, h1, h2⟩ := hall k hk
            obtain ⟨hl, hg⟩ := cells_some h1
            refine ⟨vs, hl, fun q hq => ?_, h2⟩
            have := hg q hq
            rw [addr_add, addr_add] at this
            rw [← this]
            simp only [World.cell?, hcell]
            simp
          have hsize : off + cap * j.cs.len ≤ c.size := by
            obtain ⟨vs, hl, hg, _⟩ := hcells (cap - 1) (by omega)
            have := hg (j.cs.len - 1) (by omega)
            rw [List.getElem?_eq_getElem (by omega)] at this
            have hlt := (Array.getElem?_eq_some_iff.1 this).1
            have e : cap * j.cs.len = (cap - 1) * j.cs.len + j.cs.len := by rw [← Nat.succ_mul]; congr 1; omega
            omega
          have hlensz : len * j.cs.len ≤ cap * j.cs.len := Nat.mul_le_mul_right _ hlc
          let vs := (c.toList.drop off).take (len * j.cs.len)
          have hvl : vs.length = len * j.cs.len := by simp only [vs, List.length_take, List.length_drop, Array.length_toList]; omega
          obtain ⟨xs, F, hxl, hL, hQ, hFb⟩ := chunks (R := Cs.Rep w j.cs) (Q := fun y G => (∀ b ∈ G, b < w.heap.size) ∧ Cs.wf j.cs y) len vs hvl (fun k hk => by
            obtain ⟨us, hl, hg, hgood⟩ := hcells k (by omega)
            have e : (vs.drop (k * j.cs.len)).take j.cs.len = us := by
              have hkk : k * j.cs.len + j.cs.len ≤ len * j.cs.len := by rw [← Nat.succ_mul]; exact Nat.mul_le_mul_right _ hk
              apply List.ext_getElem?
              intro q
              by_cases hq : q < j.cs.len
              · rw [List.getElem?_take_of_lt hq, List.getElem?_drop]
                simp only [vs]
                rw [List.getElem?_take_of_lt (by omega), List.getElem?_drop, ← hg q hq, Array.getElem?_toList]
                congr 1; omega
              · rw [List.getElem?_eq_none (by rw [List.length_take]; omega), List.getElem?_eq_none (by omega)]
            rw [e]
            obtain ⟨y, G, k1, k2, k3⟩ := good_rep j.cs us hgood
            exact ⟨y, G, k1, k2, k3⟩)
          have hb : b < w.heap.size := (Array.getElem?_eq_some_iff.1 hcell).1
          refine ⟨⟨xs, b :: F, rep_sl.2 (.inr ⟨b, off, cap, vs, F, ?_, rfl, by omega, ⟨c, tc, fz, hcell, hsize⟩, ⟨c, tc, fz, hcell, ?_⟩, hL⟩), fun b' hb' => ?_, ?_⟩, trivial⟩
          · rw [hxl]
          · rw [hvl]
          · rcases List.mem_cons.1 hb' with rfl | hb'
            · exact hb
            · obtain ⟨y, G, ⟨k1, _⟩, k2⟩ := hFb b' hb'; exact k1 b' k2
          · simp only [CT.wf]
            exact ⟨by omega, fun y hy => by obtain ⟨G, _, k⟩ := hQ y hy; exact k⟩
end
end Go.V

