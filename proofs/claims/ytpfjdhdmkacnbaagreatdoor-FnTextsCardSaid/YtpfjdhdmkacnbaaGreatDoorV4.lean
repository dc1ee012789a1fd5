/- V: a run of the model's code over plain data, and that it is what the machine does. Part 4 of 4. No condition. -/
import Derived.Test.YtpfjdhdmkacnbaaGreatDoorV3
import Derived.Carry
import Derived.Below
import Derived.Lib.ItoaNum
import Derived.Lib.Join
import Derived.Lib.LaidTab
import Derived.Sort.Grow
import Derived.Deep.Draws
namespace Go.V
open Go.RowKit
set_option linter.unusedVariables false
set_option linter.unusedSimpArgs false
variable {P : Program} {ti : List (Nat × TInfo)} {W w : World}

mutual
theorem CT.same_refl : ∀ c : CT, CT.same c c = some ⟨rfl⟩
  | .int k => by simp [CT.same]
  | .bool => rfl
  | .str => rfl
  | .err => rfl
  | .sl e => by simp only [CT.same, Cs.same_refl e]
theorem Cs.same_refl : ∀ e : Cs, Cs.same e e = some ⟨rfl⟩
  | .one c => by simp only [Cs.same, CT.same_refl c]
  | .cons c r => by simp only [Cs.same, CT.same_refl c, Cs.same_refl r]
end
theorem CT.read_cell {F : Name → Option Entry} (c : CT) (x : c.den) : (c.read (c.cell x)).Runs F x [] := by
  cases c with
  | int k => exact (show (cond (Nat.beq (ikNat k) (ikNat k)) (Rd.ret x) .fail).Runs F x [] from by rw [show Nat.beq (ikNat k) (ikNat k) = true from Nat.beq_refl _]; exact ⟨rfl, rfl⟩)
  | bool => exact ⟨rfl, rfl⟩
  | str => exact ⟨rfl, rfl⟩
  | err => exact ⟨rfl, rfl⟩
  | sl e =>
    show (readL e (.sh e x)).Runs F x []
    simp only [readL, Cs.same_refl]
    exact ⟨rfl, rfl⟩
theorem Cs.read_cells {F : Name → Option Entry} : ∀ (c : Cs) (x : c.den), (c.read (c.cells x)).Runs F x []
  | .one c, x => CT.read_cell c x
  | .cons c r, x => by
    show ((c.read (c.cell x.1)).bind fun a => (r.read (r.cells x.2)).bind fun b => .ret (a, b)).Runs F x []
    exact Rd.bind_runs (L1 := []) (L2 := []) (CT.read_cell c x.1) (Rd.bind_runs (L1 := []) (L2 := []) (Cs.read_cells r x.2) ⟨rfl, rfl⟩)
def argAVs : (ps : List PSig) → Tup (psCs ps) → List AV
  | [], _ => []
  | .val agg c _ :: ps, x => avOf agg (c.cells (Tup.hd c (psCs ps) x)) :: argAVs ps (Tup.tl c (psCs ps) x)
  | .ptr c _ :: ps, x => argAVs ps (Tup.tl c (psCs ps) x)
theorem argAVs_rep {D : Name → Prop} {g : Gh} : ∀ {ps : List PSig} {x : Tup (psCs ps)} {vs : List Value}, lends ps = true → ArgsAt g.I w ps x vs [] [] → All2 (AVRep D g w) (argAVs ps x) vs
  | [], x, vs, _, ⟨h, _⟩ => by subst h; trivial
  | .val agg c false :: ps, x, vs, hl, ⟨v, vs', us, t1, t2, n1, n2, h1, h2, h3, h4, h5, h6⟩ => by
    subst h1
    obtain ⟨rfl, rfl⟩ := List.append_eq_nil_iff.1 h3.symm
    obtain ⟨rfl, rfl⟩ := List.append_eq_nil_iff.1 h4.symm
    rcases h5 with ⟨_, _, h, _⟩ | ⟨_, _, _, F, hF, hI⟩
    · cases h
    · exact ⟨avOf_rep (Cs.cells_rep hF hI) h2, argAVs_rep (by simpa [lends] using hl) h6⟩
  | .val _ _ true :: _, _, _, hl, _ => by simp [lends] at hl
  | .ptr _ _ :: _, _, _, hl, _ => by simp [lends] at hl
theorem okAgg_of {D : Name → Prop} {g : Gh} {agg : Bool} {c : Cs} {x : c.den} {v : Value} {us : List Value} {F : List Nat} (h : isAgg agg v us) (hF : Cs.Rep w c x us F) : okAgg agg (avOf agg (c.cells x)) = true ∧ (avOf agg (c.cells x)).cells = c.cells x := by
  rcases h with ⟨rfl, rfl⟩ | ⟨rfl, _⟩
  · have hl := hF.length
    cases c with
    | one c => exact ⟨rfl, rfl⟩
    | cons c r =>
      exfalso
      have := Cs.len_pos r
      simp [Cs.len] at hl; omega
  · have : avOf true (c.cells x) = .agg (c.cells x) := by cases c.cells x <;> rfl
    rw [this]; exact ⟨rfl, rfl⟩
theorem argAVs_bind {I : Nat → Prop} {F : Name → Option Entry} : ∀ {ps : List PSig} {x : Tup (psCs ps)} {vs : List Value}, lends ps = true → ArgsAt I w ps x vs [] [] → ∃ b : Bound (psCs ps), (bindArgs false ps (argAVs ps x)).Runs F b [] ∧ b.args = x ∧ b.used = [] ∧ b.ptrs = []
  | [], x, vs, _, ⟨h, _⟩ => ⟨⟨(), [], [], []⟩, ⟨rfl, rfl⟩, rfl, rfl, rfl⟩
  | .val agg c false :: ps, x, vs, hl, ⟨v, vs', us, t1, t2, n1, n2, h1, h2, h3, h4, h5, h6⟩ => by
    subst h1
    obtain ⟨rfl, rfl⟩ := List.append_eq_nil_iff.1 h3.symm
    obtain ⟨rfl, rfl⟩ := List.append_eq_nil_iff.1 h4.symm
    rcases h5 with ⟨_, _, h, _⟩ | ⟨_, _, _, G, hG, hI⟩
    · cases h
    · obtain ⟨k1, k2⟩ := okAgg_of (D := fun _ => False) (g := ⟨fun _ => False, fun _ => .slice none 0 0, fun _ => 0, fun _ => none, fun _ => [], fun _ => []⟩) h2 hG
      obtain ⟨b, e1, e2, e3, e4⟩ := argAVs_bind (F := F) (show lends ps = true by simpa [lends] using hl) h6
      refine ⟨⟨Tup.mk c (psCs ps) (Tup.hd c (psCs ps) x) b.args, [] ++ b.used, b.ptrs, cond false [] ((avOf agg (c.cells (Tup.hd c (psCs ps) x))).cells.flatMap Cell.names) ++ b.ro⟩, ?_, ?_, ?_, e4⟩
      · show (bindArgs false (.val agg c false :: ps) (avOf agg (c.cells (Tup.hd c (psCs ps) x)) :: argAVs ps (Tup.tl c (psCs ps) x))).Runs F _ []
        rw [bindArgs, k1]
        refine Rd.bind_runs (L1 := []) (L2 := []) (a := ()) ⟨rfl, rfl⟩ ?_
        refine Rd.bind_runs (L1 := []) (L2 := []) (a := (Tup.hd c (psCs ps) x, [])) ?_ ?_
        · refine Rd.bind_runs (L1 := []) (L2 := []) (a := Tup.hd c (psCs ps) x) ?_ ⟨rfl, rfl⟩
          rw [k2]; exact Cs.read_cells c _
        · exact Rd.bind_runs (L1 := []) (L2 := []) e1 ⟨rfl, rfl⟩
      · show Tup.mk c (psCs ps) (Tup.hd c (psCs ps) x) b.args = x
        rw [e2]
        have eta : ∀ (c : Cs) (r : List Cs) (x : Tup (c :: r)), Tup.mk c r (Tup.hd c r x) (Tup.tl c r x) = x := by
          intro c r x
          cases r with
          | nil => rfl
          | cons _ _ => rfl
        exact eta c (psCs ps) x
      · simpa using e3
  | .val _ _ true :: _, _, _, hl, _ => by simp [lends] at hl
  | .ptr _ _ :: _, _, _, hl, _ => by simp [lends] at hl
abbrev yesR : List RSig := [.val false (.one .bool) (some true)]
def yes : (ps : List PSig) → Tup (outCs ps yesR)
  | [] => true
  | .val _ _ _ :: ps => yes ps
  | .ptr c _ :: ps => Tup.mk c (outCs ps yesR) c.zero (yes ps)
theorem giveOut_yes : ∀ (ps : List PSig) (n : Name), lends ps = true → giveOut n ps yesR [] (yes ps) = ⟨[.cell (.bool true)], [], []⟩
  | [], n, _ => rfl
  | .val _ _ false :: ps, n, h => giveOut_yes ps n (by simpa [lends] using h)
  | .val _ _ true :: _, _, h => by simp [lends] at h
  | .ptr _ _ :: _, _, h => by simp [lends] at h
theorem sharing_yes : ∀ (ps : List PSig), lends ps = true → sharing ps yesR = false := by
  intro ps h
  unfold sharing
  rw [show yesR.any RSig.sh = false from rfl, Bool.or_false]
  rw [List.any_eq_false]
  intro p hp
  have := List.all_eq_true.1 h p hp
  cases p with
  | val _ _ _ => simp [PSig.sh]
  | ptr _ _ => cases this
theorem law_calls {f : FuncId} {ps : List PSig} {den : Tup (psCs ps) → Option (Tup (outCs ps yesR))} (hm : Meets P f ⟨ps, yesR, den⟩) (hl : lends ps = true) {x : Tup (psCs ps)} {vs : List Value} (ha : ArgsAt (fun b => b < w.heap.size) w ps x vs [] []) (hd : den x = some (yes ps)) (hlay : Lay w fun _ => False) :
    Calls P f vs.toArray w fun e w' => e = .returned (.bool true) ∧ Below w.heap.size w w' := by
  have hM := MS.start (w := w) (fun b => b < w.heap.size) (fun _ => False) (fun k => ∃ b, k = w.heap.size + b ∧ b < w.heap.size) (fun _ h => h) (fun b h => ⟨b, rfl, h⟩) hlay
  have h1 := argAVs_rep (D := dom []) (g := ⟨fun b => b < w.heap.size, fun _ => .slice none 0 0, fun _ => 0, fun _ => none, fun _ => [], fun _ => []⟩) hl ha
  obtain ⟨b, h2, e1, e2, e3⟩ := argAVs_bind (F := find []) hl ha
  have hs := sharing_yes ps hl
  have hg := giveOut_yes ps 0 hl
  have key := hm.2 w (fun _ => False) (fun k => ∃ b, k = w.heap.size + b ∧ b < w.heap.size) [] _ w 0 (argAVs ps x) vs b [] (yes ps) hM h1 (by rw [hs]; exact h2)
    (by rw [e2]; simp [distinct, find]) (by show den b.args = _; rw [e1]; exact hd)
    (by show distinct (giveOut 0 ps yesR b.ptrs (yes ps)).news = true; rw [e3, hg]; rfl) (by intro p hp; have hp : p ∈ (giveOut 0 ps yesR b.ptrs (yes ps)).news := hp; rw [e3, hg] at hp; simp at hp)
  refine key.mono fun e w' he => ?_
  cases e with
  | returned v =>
    obtain ⟨g', hM', _, hv⟩ := he
    have hv : AVRep _ g' w' (valsAV (giveOut 0 ps yesR b.ptrs (yes ps)).vals) v := hv
    rw [e3, hg] at hv
    have hv : v = .bool true := hv
    exact ⟨by rw [hv], ⟨hM'.since.os, hM'.since.tape, hM'.since.out, hM'.since.size, fun k hk => hM'.since.mem k hk (fun h => h)⟩⟩
  | panicked _ => exact he.elim
  | outgrown => exact he.elim

theorem Good.cons {l : List (FuncId × Fn)} {f : FuncId} {F : Fn} (h : Good P ⟨ti, l, [], false⟩) (hm : Meets P f F) : Good P ⟨ti, (f, F) :: l, [], false⟩ := by
  refine ⟨h.tis, h.eqs, fun k F' hk => ?_, (fun f M hf => by cases hf), (fun h => by cases h)⟩
  have hk' : (if f = k then some F else find l k) = some F' := by rw [← find_cons]; exact hk
  clear hk
  split at hk'
  · rename_i e; subst e; cases hk'; exact hm
  · exact h.fns k F' hk'
def TupWf : (ps : List PSig) → Tup (psCs ps) → Prop
  | [], _ => True
  | .val _ c _ :: ps, x => Cs.wf c (Tup.hd c (psCs ps) x) ∧ TupWf ps (Tup.tl c (psCs ps) x)
  | .ptr c _ :: ps, x => Cs.wf c (Tup.hd c (psCs ps) x) ∧ TupWf ps (Tup.tl c (psCs ps) x)
def sigOk (ti : List (Nat × TInfo)) : List TypeId → List PSig → Bool
  | [], [] => true
  | t :: ts, .val agg c false :: ps => (match find ti t with | some i => beqB i.agg agg && (Cs.same i.cs c).isSome | none => false) && sigOk ti ts ps
  | _, _ => false
theorem sigOk_lends : ∀ {ts : List TypeId} {ps : List PSig}, sigOk ti ts ps = true → lends ps = true
  | [], [], _ => rfl
  | t :: ts, .val agg c false :: ps, h => by
    simp only [sigOk, Bool.and_eq_true] at h
    simpa [lends] using sigOk_lends h.2
  | [], _ :: _, h => by cases h
  | _ :: _, [], h => by cases h
  | _ :: _, .val _ _ true :: _, h => by cases h
  | _ :: _, .ptr _ _ :: _, h => by cases h
theorem okWide_agg (hT : Tis P ti) {t : Nat} {i : TInfo} (hi : find ti t = some i) {base : Nat} {v : Value} (hv : Value.okWide P W .any base t v) : isAgg i.agg v v.cells.toList := by
  obtain ⟨d, u, z, hf⟩ := hT.facts hi
  cases ha : i.agg with
  | true =>
    obtain ⟨fs, hu, _⟩ := hf.agg ha
    have hund := hf.und
    rw [hu] at hund
    simp only [Value.okWide, hund] at hv
    obtain ⟨cs, rfl, _⟩ := hv
    exact .inr ⟨rfl, rfl⟩
  | false =>
    obtain ⟨c, _, hs⟩ := hf.plain ha
    have hund := hf.und
    left
    refine ⟨rfl, ?_⟩
    cases u <;> try (simp [scalarOk] at hs; done)
    all_goals
      simp only [Value.okWide, hund, Cell.okWide] at hv
      cases v <;> first | rfl | (simp_all [Cell.ok]; done)
theorem law_args {H : Type} {enc : TypeId × Value → H} {held : Bool} (hT : Tis P ti) (hD : Deep P ti) {base : Nat} : ∀ {ts : List TypeId} {ps : List PSig} {vs : List Value} {ds : List (DataW H)} {p : List MemPlace}, sigOk ti ts ps = true → DataW.TrodAll enc P W 0 (fun _ => true) held ts vs ds p →
    (∀ (j : Nat) t v, ts[j]? = some t → vs[j]? = some v → Value.okWide P W .any base t v) → ∃ x, ArgsAt (fun b => b < W.heap.size) W ps x vs [] [] ∧ TupWf ps x
  | [], [], [], [], p, _, _, _ => ⟨(), ⟨rfl, rfl, rfl⟩, trivial⟩
  | t :: ts, .val agg c false :: ps, v :: vs, d :: ds, p, hs, h, hv => by
    obtain ⟨p1, q1, ⟨fuel, h1⟩, h2, _⟩ := h
    simp only [sigOk, Bool.and_eq_true] at hs
    cases hi : find ti t with
    | none => rw [hi] at hs; cases hs.1
    | some i =>
      rw [hi] at hs
      simp only [Bool.and_eq_true] at hs
      obtain ⟨⟨ha, hc⟩, hs⟩ := hs
      obtain rfl := beqB_eq ha
      cases hsm : Cs.same i.cs c with
      | none => rw [hsm] at hc; cases hc
      | some e =>
        obtain ⟨e⟩ := e
        subst e
        obtain ⟨x1, F, k1, k2, k3⟩ := good_rep i.cs _ (trod_good hT hD fuel t i _ _ hi h1)
        obtain ⟨x2, k4, k5⟩ := law_args (ps := ps) hT hD hs h2 (fun j t v ht hv' => hv (j + 1) t v (by simpa using ht) (by simpa using hv'))
        have hag := okWide_agg hT hi (hv 0 t v rfl rfl)
        refine ⟨Tup.mk i.cs (psCs ps) x1 x2, ⟨v, vs, v.cells.toList, [], [], [], [], rfl, hag, rfl, rfl, .inr ⟨rfl, rfl, rfl, F, ?_, k2⟩, ?_⟩, ?_⟩
        · show Cs.Rep W i.cs (Tup.hd i.cs (psCs ps) (Tup.mk i.cs (psCs ps) x1 x2)) _ F; rw [Tup.hd_mk]; exact k1
        · show ArgsAt _ W ps (Tup.tl i.cs (psCs ps) (Tup.mk i.cs (psCs ps) x1 x2)) vs [] []; rw [Tup.tl_mk]; exact k4
        · show Cs.wf i.cs (Tup.hd i.cs (psCs ps) (Tup.mk i.cs (psCs ps) x1 x2)) ∧ TupWf ps (Tup.tl i.cs (psCs ps) (Tup.mk i.cs (psCs ps) x1 x2)); rw [Tup.hd_mk, Tup.tl_mk]; exact ⟨k3, k5⟩
  | [], [], _ :: _, _, _, _, h, _ => by cases h
  | [], [], [], _ :: _, _, _, h, _ => by cases h
  | _ :: _, _, [], _, _, _, h, _ => by cases h
  | _ :: _, _, _ :: _, [], _, _, h, _ => by cases h
  | [], _ :: _, _, _, _, hs, _, _ => by cases hs
  | _ :: _, [], _, _, _, hs, _, _ => by cases hs
  | _ :: _, .val _ _ true :: _, _, _, _, hs, _, _ => by cases hs
  | _ :: _, .ptr _ _ :: _, _, _, _, hs, _, _ => by cases hs
theorem law_walk {H : Type} {enc : TypeId × Value → H} {held : Bool} {f : FuncId} {ps : List PSig} {den : Tup (psCs ps) → Option (Tup (outCs ps yesR))} (hm : Meets P f ⟨ps, yesR, den⟩) (hT : Tis P ti) (hD : Deep P ti) {ts : List TypeId} (hs : sigOk ti ts ps = true) (hden : ∀ x, TupWf ps x → den x = some (yes ps))
    {base : Nat} {vs : List Value} {ds : List (DataW H)} {p : List MemPlace} (h : DataW.TrodAll enc P W 0 (fun _ => true) held ts vs ds p) (hv : ∀ (j : Nat) t v, ts[j]? = some t → vs[j]? = some v → Value.okWide P W .any base t v) (hlay : Lay W fun _ => False) :
    Calls P f vs.toArray W fun e W' => e = .returned (.bool true) ∧ Below W.heap.size W W' := by
  obtain ⟨x, h1, h2⟩ := law_args hT hD hs h hv
  exact law_calls hm (sigOk_lends hs) h1 (hden x h2) hlay
end Go.V
namespace Go.V
open Go.RowKit Go.Sort
set_option linter.unusedVariables false
set_option linter.unusedSimpArgs false
variable {P : Program} {w : World} {en : List (Name × Entry)} {g : Gh}

theorem bind_used {F : Name → Option Entry} : ∀ {ps : List PSig} {args : List AV} {b : Bound (psCs ps)} {L : List Name}, lends ps = true → (bindArgs false ps args).Runs F b L → b.used = []
  | [], [], b, L, _, hr => by obtain ⟨rfl, _⟩ := hr; rfl
  | .val agg c false :: ps, v :: args, b, L, hl, hr => by
    simp only [bindArgs, cond_false] at hr
    obtain ⟨_, L5, L6, _, h0, hr⟩ := Rd.runs_bind hr
    obtain ⟨a, L1, L2, _, h1, hr⟩ := Rd.runs_bind hr
    obtain ⟨b', L3, L4, _, h2, hr⟩ := Rd.runs_bind hr
    obtain ⟨rfl, _⟩ := hr
    obtain ⟨x, L7, L8, _, _, h3⟩ := Rd.runs_bind h1
    obtain ⟨rfl, _⟩ := h3
    show [] ++ b'.used = []
    rw [bind_used (by simpa [lends] using hl) h2]; rfl
  | .val _ _ true :: _, _, _, _, hl, _ => by simp [lends] at hl
  | .ptr _ _ :: _, _, _, _, hl, _ => by simp [lends] at hl
  | [], _ :: _, _, _, _, hr => hr.elim
  | .val _ _ false :: _, [], _, _, _, hr => hr.elim
theorem args_lent {I : Nat → Prop} : ∀ {ps : List PSig} {x : Tup (psCs ps)} {vs : List Value} {ts ns : List Nat}, lends ps = true → ArgsAt I w ps x vs ts ns → LentAt w ps x vs
  | [], x, vs, ts, ns, _, ⟨h, _⟩ => h
  | .val agg c false :: ps, x, vs, ts, ns, hl, ⟨v, vs', us, t1, t2, n1, n2, h1, h2, h3, h4, h5, h6⟩ => by
    rcases h5 with ⟨_, _, h, _⟩ | ⟨_, _, _, F, hF, hI⟩
    · cases h
    · exact ⟨v, vs', us, F, h1, h2, hF, args_lent (by simpa [lends] using hl) h6⟩
  | .val _ _ true :: _, _, _, _, _, hl, _ => by simp [lends] at hl
  | .ptr _ _ :: _, _, _, _, _, hl, _ => by simp [lends] at hl
abbrev strR : List RSig := [.val false (.one .str) (some true)]
theorem below_ms {w0 : World} {T N : Nat → Prop} {w' : World} (hM : MS w0 T N en g w) (hb : Below w.heap.size w w') : MS w0 T N en g w' ∧ Le (dom en) g w (dom en) g w' :=
  hM.world (fun b h => hb.block b (hM.mem.old b h)) (fun n e b hn ha ht => hb.block b ((hM.mem.rep n e hn).top_lt ha ht)) hb.os hb.output hb.tape hb.size (fun b h _ => hb.block b (Nat.lt_of_lt_of_le h hM.since.size))
    (fun n e b hn ht h => hb.block b (tree_lt (hM.mem.rep n e hn) ht h))

def libItoa (n : Int) : Option (List UInt8) := cond (decide (-9223372036854775808 ≤ n) && decide (n ≤ 9223372036854775807)) (some (Lib.itoa n)) none
def libItoaF : Fn := ⟨[.val false (.one (.int .i64)) false], strR, fun a => libItoa a⟩
theorem meets_itoa {f : FuncId} (hx : ∃ fn c, P.funcs[f]? = some fn ∧ (fn.name == "runtime.NumGoroutine") = false ∧ fn.body = some c)
    (hc : ∀ (n : Int) (w : World), -9223372036854775808 ≤ n → n ≤ 9223372036854775807 → Lay w (fun _ => False) → Calls P f #[.int .i64 n] w fun e w' => e = .returned (.string ⟨(Lib.itoa n).toArray⟩) ∧ Below w.heap.size w w') :
    Meets P f libItoaF := by
  refine ⟨hx, ?_⟩
  intro w0 T N en g w uid args vals b L r hM hargs hbind hro hden hdist hnew
  have hu : b.used = [] := bind_used rfl hbind
  obtain ⟨hat, _, _⟩ := bind_args (I := fun b => b < w.heap.size) hM.mem hargs hbind ⟨fun b h => hM.mem.old b h, fun p hp => by rw [hu] at hp; simp at hp, fun n _ f b hf ha ht => (hM.mem.rep n f hf).top_lt ha ht⟩
  obtain ⟨v, vs', us, F, rfl, ha, hF, h0⟩ := args_lent rfl hat
  have h0 : vs' = [] := h0
  subst h0
  obtain ⟨n, hn⟩ : ∃ n : Int, b.args = n := ⟨b.args, rfl⟩
  have hden : libItoa n = some r := by rw [← hn]; exact hden
  rcases ha with ⟨_, rfl⟩ | ⟨h, _⟩
  · obtain ⟨v', e1, e2, _⟩ := hF
    have hv : v = .int .i64 n := by cases e1; rw [← hn]; exact e2
    subst hv
    unfold libItoa at hden
    cases hk : (decide (-9223372036854775808 ≤ n) && decide (n ≤ 9223372036854775807)) with
    | false => rw [hk] at hden; cases hden
    | true =>
      rw [hk] at hden
      have hden : Lib.itoa n = r := Option.some.inj hden
      simp only [Bool.and_eq_true, decide_eq_true_eq] at hk
      refine (hc n w hk.1 hk.2 (hM.since.lay fun _ h => h.elim)).mono fun e w' ⟨he, hb⟩ => ?_
      rw [he]
      obtain ⟨h1, h2⟩ := below_ms hM hb
      refine ⟨g, ?_, ?_, ?_⟩
      · rw [hu]; exact h1
      · rw [hu]; exact h2
      · show _ = _
        rw [hden]; rfl
  · cases h

def libJoin (xs : List (List UInt8)) (sep : List UInt8) : Option (List UInt8) := cond (decide (xs.length ≤ 140737488355328) && decide ((Lib.join xs sep).length ≤ 140737488355328)) (some (Lib.join xs sep)) none
theorem strs_cells {e : List (List UInt8)} : ∀ {xs : List (List UInt8)} {vs : List Value} {F : List Nat}, listRep 1 (Cs.Rep w (.one .str)) xs vs F → vs = xs.map fun s => Value.string ⟨s.toArray⟩
  | [], vs, F, h => h.1
  | x :: xs, vs, F, h => by
    obtain ⟨v1, v2, F1, F2, rfl, h1, _, ⟨v, e1, e2, _⟩, h⟩ := h
    rw [strs_cells (e := e) h, e1]
    have e2 : v = .string ⟨(x : List UInt8).toArray⟩ := e2
    rw [e2]; rfl
def libJoinF : Fn := ⟨[.val false (.one (.sl (.one .str))) false, .val false (.one .str) false], strR, fun a => libJoin a.1 a.2⟩
theorem meets_join {f : FuncId} (hx : ∃ fn c, P.funcs[f]? = some fn ∧ (fn.name == "runtime.NumGoroutine") = false ∧ fn.body = some c)
    (hc0 : ∀ (a : Option Addr) (c : Nat) (sep : ByteArray) (w : World), Calls P f #[.slice a 0 c, .string sep] w fun e w' => e = .returned (.string ⟨#[]⟩) ∧ w' = w)
    (hc : ∀ (bk o c : Nat) (xs : List ByteArray) (sep : ByteArray) (w : World), (∀ (j : Nat) x, xs[j]? = some x → w.cell? ⟨bk, o + j, none⟩ = some (.string x)) → bk < w.heap.size → xs.length ≤ 140737488355328 → xs.length ≤ c →
      (Lib.join (xs.map (·.data.toList)) sep.data.toList).length ≤ 140737488355328 →
      Calls P f #[.slice (some ⟨bk, o, none⟩) xs.length c, .string sep] w fun e w' => e = .returned (.string ⟨(Lib.join (xs.map (·.data.toList)) sep.data.toList).toArray⟩) ∧ Below w.heap.size w w') :
    Meets P f libJoinF := by
  refine ⟨hx, ?_⟩
  intro w0 T N en g w uid args vals b L r hM hargs hbind hro hden hdist hnew
  have hu : b.used = [] := bind_used rfl hbind
  obtain ⟨hat, _, _⟩ := bind_args (I := fun b => b < w.heap.size) hM.mem hargs hbind ⟨fun b h => hM.mem.old b h, fun p hp => by rw [hu] at hp; simp at hp, fun n _ f b hf ha ht => (hM.mem.rep n f hf).top_lt ha ht⟩
  obtain ⟨v, vs', us, F, rfl, ha, hF, v2, vs2, us2, F2, rfl, ha2, hF2, h0⟩ := args_lent rfl hat
  have h0 : vs2 = [] := h0
  subst h0
  obtain ⟨ss, hss⟩ : ∃ ss : List (List UInt8) × List UInt8, b.args = ss := ⟨b.args, rfl⟩
  obtain ⟨xs, sep⟩ := ss
  have hden : libJoin xs sep = some r := by
    have : (fun a : List (List UInt8) × List UInt8 => libJoin a.1 a.2) b.args = some r := hden
    rw [hss] at this; exact this
  have fin : ∀ {e : Ending} {w' : World}, e = .returned (.string ⟨(r : List UInt8).toArray⟩) → Below w.heap.size w w' →
      (match e, w' with
      | .returned v, w' => ∃ g', MS w0 T N ((giveOut uid libJoinF.ps libJoinF.rs b.ptrs r).news ++ ((giveOut uid libJoinF.ps libJoinF.rs b.ptrs r).upds ++ b.used) ++ en) g' w' ∧
          Le (dom en) g w (dom ((giveOut uid libJoinF.ps libJoinF.rs b.ptrs r).news ++ ((giveOut uid libJoinF.ps libJoinF.rs b.ptrs r).upds ++ b.used) ++ en)) g' w' ∧
          AVRep (dom ((giveOut uid libJoinF.ps libJoinF.rs b.ptrs r).news ++ ((giveOut uid libJoinF.ps libJoinF.rs b.ptrs r).upds ++ b.used) ++ en)) g' w' (valsAV (giveOut uid libJoinF.ps libJoinF.rs b.ptrs r).vals) v
      | _, _ => False) := by
    intro e w' he hb
    subst he
    obtain ⟨h1, h2⟩ := below_ms hM hb
    refine ⟨g, ?_, ?_, ?_⟩
    · rw [hu]; exact h1
    · rw [hu]; exact h2
    · rfl
  rcases ha with ⟨_, rfl⟩ | ⟨h, _⟩
  · rcases ha2 with ⟨_, rfl⟩ | ⟨h, _⟩
    · obtain ⟨v', e1, e2⟩ := hF
      obtain ⟨v3, e3, e4, _⟩ := hF2
      have hv2 : v2 = .string ⟨sep.toArray⟩ := by
        cases e3
        have e4 : v2 = .string ⟨((b.args : List (List UInt8) × List UInt8).2 : List UInt8).toArray⟩ := e4
        rw [e4, hss]
      subst hv2
      have hvv : v' = v := by cases e1; rfl
      subst hvv
      have e2 : slRep w 1 (Cs.Rep w (.one .str)) ((b.args : List (List UInt8) × List UInt8).1 : List (List UInt8)) v' F := e2
      rw [hss] at e2
      unfold libJoin at hden
      cases hk : (decide (xs.length ≤ 140737488355328) && decide ((Lib.join xs sep).length ≤ 140737488355328)) with
      | false => rw [hk] at hden; cases hden
      | true =>
        rw [hk] at hden
        have hden : Lib.join xs sep = r := Option.some.inj hden
        simp only [Bool.and_eq_true, decide_eq_true_eq] at hk
        rcases e2 with ⟨⟨a, rfl⟩, h1, _⟩ | ⟨bk, off, cap, vs, F', rfl, _, h2, ⟨c, t, fz, hcell, hsz⟩, ⟨c', t', fz', hcell', hrow⟩, hL⟩
        · refine (hc0 a 0 ⟨sep.toArray⟩ w).mono fun e w' ⟨he, hw⟩ => ?_
          subst hw
          refine fin ?_ (Below.refl _ _)
          have h1 : xs = [] := h1
          rw [he, ← hden, h1]; rfl
        · rw [hcell] at hcell'; cases hcell'
          have h2 : xs.length ≤ cap := h2
          have hL : listRep 1 (Cs.Rep w (.one .str)) xs vs F' := hL
          have hvs := strs_cells (e := []) hL
          have hmap : (xs.map fun s => (⟨s.toArray⟩ : ByteArray)).map (·.data.toList) = xs := by
            rw [List.map_map]; exact List.map_id xs
          have key := hc bk off cap (xs.map fun s => (⟨s.toArray⟩ : ByteArray)) ⟨sep.toArray⟩ w (by
            intro j x hj
            rw [List.getElem?_map, Option.map_eq_some_iff] at hj
            obtain ⟨s, hs, rfl⟩ := hj
            have hv : vs[j]? = some (.string ⟨s.toArray⟩) := by rw [hvs, List.getElem?_map, hs]; rfl
            have hjl : j < vs.length := (List.getElem?_eq_some_iff.1 hv).1
            rw [← hrow, List.getElem?_take_of_lt hjl, List.getElem?_drop] at hv
            unfold World.cell?
            simp only [hcell, Option.isSome_none, Bool.false_eq_true, if_false]
            simpa using hv) (lt_of_get hcell) (by rw [List.length_map]; exact hk.1) (by rw [List.length_map]; exact h2) (by rw [hmap]; exact hk.2)
          rw [List.length_map, hmap] at key
          refine key.mono fun e w' ⟨he, hb⟩ => fin ?_ hb
          rw [he, ← hden]
    · cases h
  · cases h

theorem tabIs_of {name : String} {k : Nat} {zs : List Int} {T : Nat → Prop} (hg : P.globalNamed name = some k) (h : Lay w T) (hm : (k, zs) ∈ tabs) : Lib.TabIs P w name .u64 zs := by
  obtain ⟨_, c, t, f, h1, h2⟩ := h _ hm
  unfold Lib.TabIs World.var?
  rw [hg]
  simp only [Option.bind_some, h1]
  rw [← h2]
theorem lay_of {name : String} {k : Nat} {zs : List Int} (ht : tabs = [(k, zs)]) (hg : P.globalNamed name = some k) (h : Lib.TabIs P w name .u64 zs) : Lay w fun _ => False := by
  intro p hp
  rw [ht] at hp
  simp only [List.mem_singleton] at hp
  subst hp
  unfold Lib.TabIs World.var? at h
  rw [hg] at h
  simp only [Option.bind_some] at h
  split at h
  · rename_i cs t f hc
    cases h
    exact ⟨fun h => h, _, t, f, hc, by simp⟩
  · cases h
theorem laid_reads {n : String} {d : DataW Unit} : ∀ {l : List (String × DataW Unit)} {ps : List MemPlace}, DataW.LaidVars P w l ps → (n, d) ∈ l →
    ∃ g t cs fuel p, P.globalNamed n = some g ∧ (P.globals[g]?).map (·.type) = some t ∧ w.var? P n = some cs ∧ DataW.trod (fun _ => ()) P w 0 (fun _ => true) false fuel t cs.toList = some (d, p)
  | [], ps, _, hm => by simp at hm
  | (m, e) :: l, ps, h, hm => by
    obtain ⟨g, t, cs, fuel, p, q, h1, h2, h3, h4, h5, _⟩ := h
    rcases List.mem_cons.1 hm with he | hm
    · cases he; exact ⟨g, t, cs, fuel, p, h1, h2, h3, h4⟩
    · exact laid_reads h5 hm
theorem tab_of_laid {name : String} {zs : List Int} {g : Nat} {t e : TypeId} {n : Nat} (hg : P.globalNamed name = some g) (hty : (P.globals[g]?).map (·.type) = some t) (ht : P.underlying t = some (.array n e)) (he : P.underlying e = some (.int .u64)) (hce : P.cellsOf e = 1) (hct : P.cellsOf t = n)
    {l : List (String × DataW Unit)} (h : laidMet P l w) (hm : (name, Lib.tabData .u64 zs) ∈ l) : Lib.TabIs P w name .u64 zs := by
  obtain ⟨ps, h, _⟩ := h
  obtain ⟨g', t', cs, fuel, p, hg', ht', hvar, hd⟩ := laid_reads h hm
  obtain rfl := Option.some.inj (hg.symm.trans hg')
  obtain rfl := Option.some.inj (hty.symm.trans ht')
  unfold Lib.TabIs
  rw [hvar, ← Lib.cells_of_tab ht he hce hct hd]
theorem below_grow (k : Nat) (os : Array Obj) : Go.RowKit.Below w.heap.size w (grow (w.drewN k) os) := by
  refine ⟨rfl, rfl, rfl, ?_, fun b hb => ?_⟩
  · show w.heap.size ≤ (w.heap ++ os).size
    rw [Array.size_append]; omega
  · show (w.heap ++ os)[b]? = w.heap[b]?
    rw [Array.getElem?_append_left hb]
end Go.V
namespace Go.V
set_option linter.unusedVariables false
def Le' {α : Type} (a b : Option α) : Prop := ∀ r, a = some r → b = some r
theorem Le'.refl {α : Type} (a : Option α) : Le' a a := fun _ h => h
theorem Le'.bind {α β : Type} {a b : Option α} {f g : α → Option β} (h : Le' a b) (k : ∀ x, Le' (f x) (g x)) : Le' (a.bind f) (b.bind g) := by
  intro r hr
  rw [Option.bind_eq_some_iff] at hr ⊢
  obtain ⟨x, h1, h2⟩ := hr
  exact ⟨x, h x h1, k x r h2⟩
theorem Le'.cond {α : Type} {c : Bool} {a b a' b' : Option α} (h : Le' a b) (k : Le' a' b') : Le' (cond c a a') (cond c b b') := by
  cases c
  · exact k
  · exact h
def qloop {α β : Type} (step : α → Option (α ⊕ β)) (a : α) : Option β := iter step 2048 a
theorem iter_le {α β : Type} {f g : α → Option (α ⊕ β)} (h : ∀ x, Le' (f x) (g x)) : ∀ (k : Nat) (a : α), Le' (iter f k a) (iter g k a)
  | 0, a => Le'.refl _
  | k + 1, a => by
    rw [iter_succ, iter_succ]
    refine Le'.bind (h a) fun x => ?_
    cases x with
    | inl x => exact iter_le h k x
    | inr b => exact Le'.refl _
theorem iter_det {α β : Type} {f : α → Option (α ⊕ β)} : ∀ (k k' : Nat) (a : α) {b b' : β}, iter f k a = some b → iter f k' a = some b' → b = b'
  | 0, _, a, b, b', h, _ => by cases h
  | k + 1, 0, a, b, b', _, h => by cases h
  | k + 1, k' + 1, a, b, b', h, h' => by
    rw [iter_succ, Option.bind_eq_some_iff] at h h'
    obtain ⟨x, h1, h2⟩ := h
    obtain ⟨x', h1', h2'⟩ := h'
    rw [h1] at h1'; cases h1'
    cases x with
    | inl x => exact iter_det k k' x h2 h2'
    | inr c => cases h2; cases h2'; rfl
theorem loop_of {α β : Type} {f : α → Option (α ⊕ β)} {k : Nat} {a : α} {b : β} (h : iter f k a = some b) : loop f a = some b := by
  unfold loop
  have hex : ∃ k, (iter f k a).isSome := ⟨k, by rw [h]; rfl⟩
  rw [dif_pos hex]
  have := Classical.choose_spec hex
  cases hc : iter f (Classical.choose hex) a with
  | none => rw [hc] at this; cases this
  | some b' => rw [iter_det _ _ _ h hc]
theorem Le'.loop {α β : Type} {f g : α → Option (α ⊕ β)} {a : α} (h : ∀ x, Le' (f x) (g x)) : Le' (qloop f a) (loop g a) := fun r hr => loop_of (iter_le h _ _ r hr)
theorem w64_id {n : Int} (h1 : -9223372036854775808 ≤ n) (h2 : n ≤ 9223372036854775807) : w64 n = n := by
  show (let m := n % 18446744073709551616; if (true && decide (m ≥ 9223372036854775808)) = true then m - 18446744073709551616 else m) = n
  simp only [Bool.true_and, decide_eq_true_eq]
  split <;> omega
end Go.V
namespace Go.V
set_option linter.unusedVariables false
set_option linter.unusedSimpArgs false

theorem loop_inv {α β : Type} {step : α → Option (α ⊕ β)} (Inv : Nat → α → Prop) (m : Nat) (R : β → Prop)
    (h : ∀ k x, k < m → Inv k x → (∃ y, step x = some (.inl y) ∧ Inv (k + 1) y) ∨ ∃ b, step x = some (.inr b) ∧ R b)
    (he : ∀ x, Inv m x → ∃ b, step x = some (.inr b) ∧ R b) {x : α} (h0 : Inv 0 x) : ∃ b, loop step x = some b ∧ R b := by
  have key : ∀ n k x, k + n = m → Inv k x → ∃ b, iter step (n + 1) x = some b ∧ R b := by
    intro n
    induction n with
    | zero =>
      intro k x hk hx
      obtain rfl : k = m := by omega
      obtain ⟨b, h1, h2⟩ := he x hx
      exact ⟨b, by rw [iter_succ, h1]; rfl, h2⟩
    | succ n ih =>
      intro k x hk hx
      rcases h k x (by omega) hx with ⟨y, h1, h2⟩ | ⟨b, h1, h2⟩
      · obtain ⟨b, h3, h4⟩ := ih (k + 1) y (by omega) h2
        exact ⟨b, by rw [iter_succ, h1]; exact h3, h4⟩
      · exact ⟨b, by rw [iter_succ, h1]; rfl, h2⟩
  obtain ⟨b, h1, h2⟩ := key m 0 x (by omega) h0
  exact ⟨b, loop_of h1, h2⟩
theorem at_nat {α : Type} {xs : List α} {k : Nat} (h : k < xs.length) : at? xs (k : Int) = some xs[k] := by
  unfold at?
  rw [if_pos (by omega), Int.toNat_natCast, List.getElem?_eq_getElem h]
theorem ix_nat {n k : Nat} (h : k < n) : ix n (k : Int) = some k := by
  unfold ix
  rw [if_pos (by omega), if_pos (by omega), Int.toNat_natCast]
theorem w64_nat {k : Nat} (h : k < 9223372036854775807) : w64 ((k : Int) + 1) = ((k + 1 : Nat) : Int) := by
  rw [w64_id (by omega) (by omega)]; omega
theorem mkLen_nat {n : Nat} (h : n ≤ 4294967295) : mkLen (n : Int) = some n := by
  unfold mkLen
  rw [if_pos (by omega), if_pos (by show (n : Int) ≤ ((4294967296 : Nat) : Int); omega), Int.toNat_natCast]
theorem dlt {a b : Int} (h : a < b) : decide (a < b) = true := decide_eq_true h
theorem dnlt {a b : Int} (h : ¬ a < b) : decide (a < b) = false := decide_eq_false h
theorem eq_loop {α : Type} {a : List α} {g : α → α → Option Bool} (hg : ∀ x ∈ a, g x x = some true) (hn : a.length ≤ 4294967295) :
    loop (fun i : Int => cond (decide (i < (a.length : Int))) ((at? a i).bind fun x => (at? a i).bind fun y => (g x y).bind fun t => cond (!t) (some (.inr (.inr false))) (some (.inl (w64 (i + 1))))) (some (.inr (.inl ())))) 0 = some (Sum.inl () : Unit ⊕ Bool) := by
  obtain ⟨b, h1, rfl⟩ := loop_inv (β := Unit ⊕ Bool) (step := fun i : Int => cond (decide (i < (a.length : Int))) ((at? a i).bind fun x => (at? a i).bind fun y => (g x y).bind fun t => cond (!t) (some (.inr (.inr false))) (some (.inl (w64 (i + 1))))) (some (.inr (.inl ()))))
    (fun k i => i = (k : Int)) a.length (fun b => b = .inl ())
    (fun k i hk h => by
      subst h
      refine .inl ⟨((k + 1 : Nat) : Int), ?_, rfl⟩
      simp only [dlt (show (k : Int) < (a.length : Int) by omega), cond_true, at_nat hk, Option.bind_some, hg _ (List.getElem_mem hk), Bool.not_true, cond_false]
      rw [w64_nat (by omega)])
    (fun i h => by
      subst h
      exact ⟨.inl (), by simp only [dnlt (show ¬ (a.length : Int) < (a.length : Int) by omega), cond_false], rfl⟩) (x := 0) rfl
  exact h1
theorem eq_loop' {a : List Int} (hn : a.length ≤ 4294967295) :
    loop (fun i : Int => cond (decide (i < (a.length : Int))) ((at? a i).bind fun x => (at? a i).bind fun y => cond (x != y) (some (.inr (.inr false))) (some (.inl (w64 (i + 1))))) (some (.inr (.inl ())))) 0 = some (Sum.inl () : Unit ⊕ Bool) := by
  have := eq_loop (a := a) (g := fun x y => some (!(x != y))) (fun x _ => by simp) hn
  simpa using this
theorem eqS_of {n : Nat} {step : Int → Option (Int ⊕ (Unit ⊕ Bool))} (h : loop step 0 = some (Sum.inl ())) : cond ((n : Int) != (n : Int)) (some false) ((loop step 0).bind (Sum.elim (fun _ => some true) (fun r => some r))) = some true := by
  rw [h]; simp
end Go.V
namespace Go.V
set_option linter.unusedVariables false
set_option linter.unusedSimpArgs false

end Go.V

