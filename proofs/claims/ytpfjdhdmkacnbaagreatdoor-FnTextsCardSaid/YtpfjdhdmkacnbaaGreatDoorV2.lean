/- V: a run of the model's code over plain data, and that it is what the machine does. Part 2 of 4. No condition. -/
import Derived.Test.YtpfjdhdmkacnbaaGreatDoorV1
import Derived.Laws.MakeOwn
import Derived.Great.FillDense
import Derived.Laws.Tables
import Derived.Great.BuildSlice
import Derived.Laws.StructEq
namespace Go.V
set_option linter.unusedVariables false
set_option linter.unusedSimpArgs false
variable {P : Program} {w0 : World} {T N : Nat → Prop} {S : St} {g : Gh} {w w' : World} {a : Act} {o : Oper} {G : Env} {uid : Name} {en en' : List (Name × Entry)}

theorem find_twice {n : Name} {e f : Entry} (m : Name) : find ((n, e) :: (n, f) :: en) m = find ((n, e) :: en) m := by
  rw [find_cons, find_cons, find_cons]; split <;> rfl
theorem MS.rewrite (h : MS w0 T N en g w) {n : Name} {b : Nat} {E E' : Entry} {us : List Value} {F : List Nat} (hn : find en n = some E) (hE : E.alive = true) (hb : g.top n = some b) (hw : Wrote w w' b us)
    (hr : Le (dom en) g w (dom ((n, E') :: en)) (g.set n ⟨g.loc n, g.esz n, g.top n, F⟩) w' → EntRep (dom ((n, E') :: en)) (g.set n ⟨g.loc n, g.esz n, g.top n, F⟩) w' n E')
    (hnest : E'.deep = true → ∀ b, b ∈ F → (∀ m f, m ≠ n → find en m = some f → f.deep = true → b ∉ g.nest m) ∧ (w0.heap.size ≤ b ∨ T b ∨ N b)) (hnt : E'.isTree = false := by rfl) :
    MS w0 T N ((n, E') :: en) (g.set n ⟨g.loc n, g.esz n, g.top n, F⟩) w' ∧ Le (dom en) g w (dom ((n, E') :: en)) (g.set n ⟨g.loc n, g.esz n, g.top n, F⟩) w' := by
  have hdn : dom en n := by unfold dom; rw [hn]; simp
  have hown := h.since.tops n E b hn hE hb
  obtain ⟨h1, l1⟩ := h.gone hdn
  obtain ⟨h2, l2⟩ := h1.world (w' := w') (fun c hc => hw.rest c fun e => h.mem.topI n E b hn hE hb (e ▸ hc)) (fun m f c hm ha hc => hw.rest c fun e => by
      rw [find_cons] at hm
      split at hm
      · cases hm; cases ha
      · rename_i hne; exact hne (h.mem.apart n m E f b hn hm hE ha hb (e ▸ hc))) hw.os hw.out hw.tape (by rw [hw.size]; exact Nat.le_refl _)
    (fun c hc hT => hw.rest c fun e => by subst e; rcases hown with k | k; omega; exact hT k)
    (fun m f c hm ha hc => hw.rest c fun e => by
      rw [find_cons] at hm
      split at hm
      · cases hm; cases ha
      · exact (h.mem.wood m f c hm ha hc).2.1 n E hn hE (e ▸ hb))
  have hc : ∀ m, find ((n, E') :: (n, .gone) :: en) m = find ((n, E') :: en) m := find_twice
  have other : ∀ m f, m ≠ n → find ((n, .gone) :: en) m = some f → find en m = some f := fun m f hm hf => by rwa [find_other (Ne.symm hm)] at hf
  have hle0 := (l1.trans l2).trans (Gh.set_le (n := n) (w := w') E' ⟨g.loc n, g.esz n, g.top n, F⟩ (fun _ => ⟨rfl, rfl⟩))
  rw [dom_congr hc] at hle0
  obtain ⟨h3, l3⟩ := h2.put (n := n) (e := E') (i := ⟨g.loc n, g.esz n, g.top n, F⟩) (fun _ => ⟨rfl, rfl⟩) (h.mem.one n hdn) (by rw [dom_congr hc]; exact hr hle0)
    (fun ha c hc => ⟨h.mem.topI n E c hn hE hc, fun m f hm hf hfa hmc => hm (h.mem.apart m n f E c (other m f hm hf) hn hfa hE hmc hc), h.since.tops n E c hn hE hc, fun m f hm hf hft hcm => (h.mem.wood m f c (other m f hm hf) hft hcm).2.1 n E hn hE hc⟩)
    (fun hd c hc => ⟨fun m f hm hf hfd => (hnest hd c hc).1 m f hm (other m f hm hf) hfd, (hnest hd c hc).2⟩) (fun ht => by rw [hnt] at ht; cases ht)
  exact ⟨h3.congr hc, hle0⟩

theorem CellRep.one (hm : Mem en g w) {c : Cell} {v : Value} (h : CellRep (dom en) g w c v) (hc : c ≠ .undef ∧ c ≠ .void) : v.oneCell' = true := by
  cases c with
  | sub => exact h.2.2
  | undef => exact absurd rfl hc.1
  | void => exact absurd rfl hc.2
  | nil => rw [show v = _ from h]; rfl
  | int _ _ => rw [show v = _ from h]; rfl
  | bool _ => rw [show v = _ from h]; rfl
  | str _ => rw [show v = _ from h]; rfl
  | err b => rcases h with ⟨_, rfl⟩ | ⟨_, _, _, rfl⟩ <;> rfl
  | sh e xs => obtain ⟨F, hF, _⟩ := h; obtain ⟨ad, cap, rfl⟩ := sl_shape hF; rfl
  | kid _ _ e xs => obtain ⟨⟨F, hF, _⟩, _⟩ := h; obtain ⟨ad, cap, rfl⟩ := sl_shape hF; rfl
  | own r => obtain ⟨hd, rfl⟩ := h; exact hm.one r hd
  | win _ _ _ => obtain ⟨_, _, _, _, _, _, _, rfl⟩ := h; rfl
  | box _ _ => obtain ⟨_, _, _, rfl⟩ := h; rfl
  | elem _ _ _ => obtain ⟨_, _, _, _, _, _, _, rfl⟩ := h; rfl
  | shel _ _ _ => obtain ⟨_, _, _, _, _, _, _, _, rfl⟩ := h; rfl
  | fn _ _ => obtain ⟨_, rfl, _⟩ := h; rfl
theorem noUndef_mem : ∀ {cs : List Cell}, noUndef cs = true → ∀ c ∈ cs, c ≠ .undef ∧ c ≠ .void
  | [], _, c, h => by simp at h
  | .undef :: _, h, _, _ => by simp [noUndef] at h
  | .void :: _, h, _, _ => by simp [noUndef] at h
  | c' :: cs, h, c, hc => by
    rcases List.mem_cons.1 hc with rfl | hc
    · constructor <;> (rintro rfl; simp [noUndef] at h)
    · exact noUndef_mem (cs := cs) (by cases c' <;> first | exact h | simp [noUndef] at h) c hc
theorem All2.mem_right {α β : Type} {R : α → β → Prop} : ∀ {l : List α} {m : List β}, All2 R l m → ∀ b ∈ m, ∃ a ∈ l, R a b
  | [], [], _, b, hb => by simp at hb
  | a :: l, b' :: m, h, b, hb => by
    rcases List.mem_cons.1 hb with rfl | hb
    · exact ⟨a, List.mem_cons_self, h.1⟩
    · obtain ⟨a', ha, hr⟩ := All2.mem_right h.2 b hb; exact ⟨a', List.mem_cons_of_mem _ ha, hr⟩
theorem cells_rep (hm : Mem en g w) {x : AV} {v : Value} (h : AVRep (dom en) g w x v) (hu : noUndef x.cells = true) (hx : x.cells ≠ []) :
    All2 (CellRep (dom en) g w) x.cells v.cells.toList ∧ ∀ u ∈ v.cells.toList, u.oneCell' = true := by
  have key : All2 (CellRep (dom en) g w) x.cells v.cells.toList := by
    cases x with
    | cell c =>
      have h : CellRep (dom en) g w c v := h
      have hv : v.cells = #[v] := by
        have := h.one hm (noUndef_mem hu c (by simp [AV.cells]))
        cases v <;> first | rfl | simp [Value.oneCell'] at this
      rw [hv]; exact ⟨h, trivial⟩
    | agg cs => obtain ⟨vs, rfl, h⟩ := h; exact h
    | tup _ => simp [AV.cells] at hx
  refine ⟨key, fun u hu' => ?_⟩
  obtain ⟨c, hc, hr⟩ := key.mem_right u hu'
  exact hr.one hm (noUndef_mem hu c hc)
theorem All2.setSub {α β : Type} {R : α → β → Prop} {l x : List α} {m y : List β} (h : All2 R l m) (k : All2 R x y) (o : Nat) : All2 R (l.take o ++ x ++ l.drop (o + x.length)) (m.take o ++ y ++ m.drop (o + y.length)) := by
  rw [k.length]
  exact ((h.take o).append k).append (h.drop _)

theorem run_storeVar {ti : List (Nat × TInfo)} {t : Nat} {i : TInfo} {d : TypeInfo} {u : TypeDesc} {z : Value} (hf : TFacts P ti t i d u z) {b off : Nat} {us : List Value} (hw : ownBlock w b us) {v : Value} (hl : v.cells.toList.length = i.cs.len)
    (hs : off + i.cs.len ≤ us.length) (h1 : ∀ u ∈ v.cells.toList, u.oneCell' = true) : (storeVar t ⟨b, off, none⟩ v).run P w = .ok () (w.setCells b off v.cells.toList) := by
  obtain ⟨c, t', lo, hi, hc, rfl, hfz⟩ := hw
  have hlen : ∀ j, j < v.cells.toList.length → off + 0 + j < c.size := fun j hj => by simp at hs hj hl; omega
  have := run_storeCells_cells (P := P) b off v.cells.toList 0 w (fun j hj => by
      simp only [World.cell?, hc]
      have := hlen j hj
      simpa using this) (fun j hj => by
      simp only [World.frozen?, hc]
      have := hfz.2 _ (hlen j hj)
      simp only [Bool.and_eq_false_iff, decide_eq_false_iff_not]
      omega) h1
  unfold storeVar
  have hsz : v.cells.size = i.cs.len := by simpa using hl
  simp only [Sem.run_bind, hf.size_run, Result.andThen, hsz, ne_eq, not_true_eq_false, if_false, this, Nat.add_zero, Sem.run_pure]
theorem store_run (hT : Tis P G.ti) {t : TypeId} {x y : Operand} (ho : o.op = .store t x y) {i : TInfo} (hi : find G.ti t = some i) {b off : Nat} {us : List Value} (hx : a.eval x = .pointer (some ⟨b, off, none⟩)) (hw : ownBlock w b us)
    (hl : (a.eval y).cells.toList.length = i.cs.len) (hs : off + i.cs.len ≤ us.length) (h1 : ∀ u ∈ (a.eval y).cells.toList, u.oneCell' = true) :
    (execOp a.eval o).run P w = .ok .skip (w.setCells b off (a.eval y).cells.toList) := by
  obtain ⟨d, u, z, hf⟩ := hT.facts hi
  simp only [execOp, ho, hx, Instr.storeAt, Instr.sureAddr, Sem.run_bind, Sem.run_pure, Result.andThen, run_storeVar hf hw hl hs h1]

def patch (us : List Value) (o : Nat) (vs : List Value) : List Value := us.take o ++ vs ++ us.drop (o + vs.length)
theorem patch_nil (us : List Value) (o : Nat) : patch us o [] = us := by simp [patch]
theorem patch_zero (u : Value) (us : List Value) (v : Value) (vs : List Value) : patch (u :: us) 0 (v :: vs) = v :: patch us 0 vs := by simp [patch]
theorem patch_succ (u : Value) (us : List Value) (o : Nat) (vs : List Value) : patch (u :: us) (o + 1) vs = u :: patch us o vs := by simp [patch, show o + 1 + vs.length = o + vs.length + 1 by omega]
theorem patch_length {us vs : List Value} {o : Nat} (h : o + vs.length ≤ us.length) : (patch us o vs).length = us.length := by simp [patch]; omega
theorem count_app (b : Nat) (l m : List Nat) : (l ++ m).count b = l.count b + m.count b := List.count_append
theorem upd_own (hm : Mem en g w) : ∀ {e : Cs} {x : e.den} {us : List Value} {F : List Nat} {o : Nat} {cs : List Cell} {vs : List Value} {y : e.den × List (Name × Entry)} {L : List Name}, Cs.Rep w e x us F → All2 (CellRep (dom en) g w) cs vs → (e.upd true x o cs).Runs (find en) y L →
    (∃ F', Cs.Rep w e y.1 (patch us o vs) F' ∧ ∀ b, F'.count b ≤ F.count b + ((y.2.map (·.1)).flatMap (foot g)).count b) ∧ usedOk en true true y.2
  | .one c, x, us, F, 0, [], [], y, L, hx, _, hr => by
    obtain ⟨rfl, _⟩ := hr
    rw [patch_nil]; exact ⟨⟨F, hx, fun b => by simp⟩, by simp [usedOk]⟩
  | .one c, x, us, F, o + 1, [], [], y, L, hx, _, hr => by
    obtain ⟨rfl, _⟩ := hr
    rw [patch_nil]; exact ⟨⟨F, hx, fun b => by simp⟩, by simp [usedOk]⟩
  | .cons c r, x, us, F, 0, [], [], y, L, hx, _, hr => by
    obtain ⟨rfl, _⟩ := hr
    rw [patch_nil]; exact ⟨⟨F, hx, fun b => by simp⟩, by simp [usedOk]⟩
  | .cons c r, x, us, F, o + 1, [], [], y, L, hx, _, hr => by
    obtain ⟨rfl, _⟩ := hr
    rw [patch_nil]; exact ⟨⟨F, hx, fun b => by simp⟩, by simp [usedOk]⟩
  | .one c, x, us, F, 0, [k], [v], y, L, hx, hc, hr => by
    simp only [Cs.Rep] at hx
    obtain ⟨u, rfl, hx⟩ := hx
    obtain ⟨h1, h2⟩ := CT.into_own hm hc.1 hr
    refine ⟨⟨_, ?_, fun b => Nat.le_add_left _ _⟩, h2⟩
    rw [patch_zero, patch_nil]
    simp only [Cs.Rep]; exact ⟨v, rfl, h1.rep⟩
  | .one c, x, us, F, 0, k :: k' :: ks, _, y, L, hx, hc, hr => hr.elim
  | .one c, x, us, F, o + 1, k :: ks, _, y, L, hx, hc, hr => hr.elim
  | .cons c r, x, us, F, 0, k :: ks, v :: vs, y, L, hx, hc, hr => by
    simp only [Cs.Rep] at hx
    obtain ⟨u, us', F1, F2, rfl, rfl, hx1, hx2⟩ := hx
    simp only [Cs.upd] at hr
    obtain ⟨p, L1, L2, _, h1, hr⟩ := Rd.runs_bind hr
    obtain ⟨q, L3, L4, _, h2, hr⟩ := Rd.runs_bind hr
    obtain ⟨rfl, _⟩ := hr
    obtain ⟨k1, k2⟩ := CT.into_own hm hc.1 h1
    obtain ⟨⟨F', k3, k4⟩, k5⟩ := upd_own hm hx2 hc.2 h2
    refine ⟨⟨(p.2.map (·.1)).flatMap (foot g) ++ F', ?_, fun b => ?_⟩, k2.append k5⟩
    · rw [patch_zero]; simp only [Cs.Rep]; exact ⟨v, _, _, _, rfl, rfl, k1.rep, k3⟩
    · have := k4 b
      simp only [count_app, List.map_append, List.flatMap_append]; omega
  | .cons c r, x, us, F, o + 1, k :: ks, vs, y, L, hx, hc, hr => by
    simp only [Cs.Rep] at hx
    obtain ⟨u, us', F1, F2, rfl, rfl, hx1, hx2⟩ := hx
    simp only [Cs.upd] at hr
    obtain ⟨q, L3, L4, _, h2, hr⟩ := Rd.runs_bind hr
    obtain ⟨rfl, _⟩ := hr
    obtain ⟨⟨F', k3, k4⟩, k5⟩ := upd_own hm hx2 hc h2
    refine ⟨⟨F1 ++ F', ?_, fun b => ?_⟩, k5⟩
    · rw [patch_succ]; simp only [Cs.Rep]; exact ⟨u, _, _, _, rfl, rfl, hx1, k3⟩
    · have := k4 b
      simp only [count_app]; omega
theorem upd_shared (hm : Mem en g w) : ∀ {e : Cs} {x : e.den} {us : List Value} {F : List Nat} {o : Nat} {cs : List Cell} {vs : List Value} {y : e.den × List (Name × Entry)} {L : List Name}, Cs.Rep w e x us F → All2 (CellRep (dom en) g w) cs vs → (e.upd false x o cs).Runs (find en) y L →
    (∃ F', Cs.Rep w e y.1 (patch us o vs) F' ∧ ∀ b ∈ F', b ∈ F ∨ g.I b ∨ topOf en g b (y.2.map (·.1))) ∧ usedOk en false true y.2
  | .one c, x, us, F, 0, [], [], y, L, hx, _, hr => by
    obtain ⟨rfl, _⟩ := hr
    rw [patch_nil]; exact ⟨⟨F, hx, fun b hb => .inl hb⟩, by simp [usedOk]⟩
  | .one c, x, us, F, o + 1, [], [], y, L, hx, _, hr => by
    obtain ⟨rfl, _⟩ := hr
    rw [patch_nil]; exact ⟨⟨F, hx, fun b hb => .inl hb⟩, by simp [usedOk]⟩
  | .cons c r, x, us, F, 0, [], [], y, L, hx, _, hr => by
    obtain ⟨rfl, _⟩ := hr
    rw [patch_nil]; exact ⟨⟨F, hx, fun b hb => .inl hb⟩, by simp [usedOk]⟩
  | .cons c r, x, us, F, o + 1, [], [], y, L, hx, _, hr => by
    obtain ⟨rfl, _⟩ := hr
    rw [patch_nil]; exact ⟨⟨F, hx, fun b hb => .inl hb⟩, by simp [usedOk]⟩
  | .one c, x, us, F, 0, [k], [v], y, L, hx, hc, hr => by
    simp only [Cs.Rep] at hx
    obtain ⟨u, rfl, hx⟩ := hx
    obtain ⟨⟨F', h1, h3⟩, h2⟩ := CT.into_shared hm hc.1 hr
    refine ⟨⟨F', ?_, fun b hb => .inr (h3 b hb)⟩, h2⟩
    rw [patch_zero, patch_nil]
    simp only [Cs.Rep]; exact ⟨v, rfl, h1⟩
  | .one c, x, us, F, 0, k :: k' :: ks, _, y, L, hx, hc, hr => hr.elim
  | .one c, x, us, F, o + 1, k :: ks, _, y, L, hx, hc, hr => hr.elim
  | .cons c r, x, us, F, 0, k :: ks, v :: vs, y, L, hx, hc, hr => by
    simp only [Cs.Rep] at hx
    obtain ⟨u, us', F1, F2, rfl, rfl, hx1, hx2⟩ := hx
    simp only [Cs.upd] at hr
    obtain ⟨p, L1, L2, _, h1, hr⟩ := Rd.runs_bind hr
    obtain ⟨q, L3, L4, _, h2, hr⟩ := Rd.runs_bind hr
    obtain ⟨rfl, _⟩ := hr
    obtain ⟨⟨F0, k1, k6⟩, k2⟩ := CT.into_shared hm hc.1 h1
    obtain ⟨⟨F', k3, k4⟩, k5⟩ := upd_shared hm hx2 hc.2 h2
    refine ⟨⟨F0 ++ F', ?_, fun b hb => ?_⟩, k2.append k5⟩
    · rw [patch_zero]; simp only [Cs.Rep]; exact ⟨v, _, _, _, rfl, rfl, k1, k3⟩
    · rcases List.mem_append.1 hb with hb | hb
      · exact .inr ((k6 b hb).imp id fun h => h.mono (by simp +contextual))
      · rcases k4 b hb with h | h
        · exact .inl (by simp [h])
        · exact .inr (h.imp id fun h => h.mono (by simp +contextual))
  | .cons c r, x, us, F, o + 1, k :: ks, vs, y, L, hx, hc, hr => by
    simp only [Cs.Rep] at hx
    obtain ⟨u, us', F1, F2, rfl, rfl, hx1, hx2⟩ := hx
    simp only [Cs.upd] at hr
    obtain ⟨q, L3, L4, _, h2, hr⟩ := Rd.runs_bind hr
    obtain ⟨rfl, _⟩ := hr
    obtain ⟨⟨F', k3, k4⟩, k5⟩ := upd_shared hm hx2 hc h2
    refine ⟨⟨F1 ++ F', ?_, fun b hb => ?_⟩, k5⟩
    · rw [patch_succ]; simp only [Cs.Rep]; exact ⟨u, _, _, _, rfl, rfl, hx1, k3⟩
    · rcases List.mem_append.1 hb with hb | hb
      · exact .inl (by simp [hb])
      · exact (k4 b hb).imp (fun h => by simp [h]) id
theorem listRep.set {α : Type} {n : Nat} {R : α → List Value → List Nat → Prop} : ∀ {xs : List α} {vs : List Value} {F : List Nat} {i : Nat} {x : α}, listRep n R xs vs F → xs[i]? = some x →
    ∃ G1 Gi G2, F = G1 ++ Gi ++ G2 ∧ R x ((vs.drop (i * n)).take n) Gi ∧ ∀ y us Gj, R y us Gj → us.length = n → listRep n R (xs.set i y) (vs.take (i * n) ++ us ++ vs.drop (i * n + n)) (G1 ++ Gj ++ G2)
  | [], _, _, i, x, _, hx => by simp at hx
  | z :: xs, _, _, 0, x, h, hx => by
    obtain ⟨v1, v2, F1, F2, rfl, h1, rfl, hr, h⟩ := h
    obtain rfl : z = x := by simpa using hx
    subst h1
    refine ⟨[], F1, F2, rfl, by simpa using hr, fun y us Gj hy hl => ?_⟩
    exact ⟨us, v2, Gj, F2, by simp, hl, by simp, hy, h⟩
  | z :: xs, _, _, i + 1, x, h, hx => by
    obtain ⟨v1, v2, F1, F2, rfl, h1, rfl, hr, h⟩ := h
    obtain ⟨G1, Gi, G2, rfl, k1, k2⟩ := h.set (i := i) (x := x) (by simpa using hx)
    have e : (i + 1) * n = v1.length + i * n := by rw [h1, Nat.succ_mul, Nat.add_comm]
    refine ⟨F1 ++ G1, Gi, G2, by simp, ?_, fun y us Gj hy hl => ?_⟩
    · rw [e, List.drop_append, List.drop_of_length_le (by omega), List.nil_append, Nat.add_sub_cancel_left]; exact k1
    · refine ⟨v1, v2.take (i * n) ++ us ++ v2.drop (i * n + n), F1, G1 ++ Gj ++ G2, ?_, h1, by simp, hr, k2 y us Gj hy hl⟩
      rw [e, Nat.add_assoc, List.take_append, List.drop_append, List.take_of_length_le (by omega), List.drop_of_length_le (l := v1) (by omega), Nat.add_sub_cancel_left, Nat.add_sub_cancel_left]
      simp
end Go.V
namespace Go.V
set_option linter.unusedVariables false
set_option linter.unusedSimpArgs false
variable {P : Program} {w0 : World} {T N : Nat → Prop} {S : St} {g : Gh} {w w' : World} {a : Act} {o : Oper} {G : Env} {uid : Name} {en en' : List (Name × Entry)}

theorem patch_mid (A vs B vals : List Value) (q : Nat) (h : q + vals.length ≤ vs.length) : patch (A ++ vs ++ B) (A.length + q) vals = A ++ patch vs q vals ++ B := by
  unfold patch
  rw [List.append_assoc A vs B, List.take_append, List.take_of_length_le (l := A) (by omega), Nat.add_sub_cancel_left, Nat.add_assoc, List.drop_append, List.drop_of_length_le (l := A) (by omega), Nat.add_sub_cancel_left,
    List.take_append, List.drop_append, show q - vs.length = 0 by omega, show q + vals.length - vs.length = 0 by omega]
  simp
theorem split_row {us vs : List Value} {off : Nat} (h : (us.drop off).take vs.length = vs) : us = us.take off ++ vs ++ (us.drop off).drop vs.length := by
  conv => lhs; rw [← List.take_append_drop off us, ← List.take_append_drop vs.length (us.drop off), h]
  simp
theorem patch_row {us vs : List Value} {off : Nat} (h : (us.drop off).take vs.length = vs) (ho : off ≤ us.length) (vals : List Value) (q : Nat) (hq : q + vals.length ≤ vs.length) :
    ((patch us (off + q) vals).drop off).take (patch vs q vals).length = patch vs q vals := by
  have hA : (us.take off).length = off := by rw [List.length_take]; omega
  have key := patch_mid (us.take off) vs ((us.drop off).drop vs.length) vals q hq
  rw [← split_row h, hA] at key
  rw [key, List.append_assoc, List.drop_append, List.drop_of_length_le (by omega), hA, Nat.sub_self]
  simp
theorem once_of_le {l m : List Nat} (h : Once m) (k : ∀ b, l.count b ≤ m.count b) : Once l := fun b => Nat.le_trans (k b) (h b)
theorem mem_of_count {b : Nat} {l m : List Nat} (h : b ∈ l) (k : ∀ b, l.count b ≤ m.count b) : b ∈ m := by
  rw [← List.count_pos_iff] at h ⊢; have := k b; omega
theorem used_names {used : List (Name × Entry)} {deep : Bool} (hu : usedOk en deep true used) (hd : distinct used = true) {m : Name} (hm : m ∈ used.map (·.1)) {f : Entry} (hf : find (used ++ en) m = some f) : f.deep = false ∧ f.alive = false := by
  rw [find_hit hm] at hf
  obtain ⟨p, hp, rfl⟩ := List.mem_map.1 hm
  rw [distinct_mem hd hp] at hf
  obtain ⟨e, m, xs, _, _, he⟩ | ⟨_, e, xs, _, he⟩ := hu p hp <;> (cases hf; rw [he]; exact ⟨rfl, rfl⟩)
theorem usedOk.shallow {kp : Bool} {used : List (Name × Entry)} {deep : Bool} (h : usedOk en deep kp used) : usedOk en false kp used := fun p hp => by
  obtain ⟨e, m, xs, h1, _, h3⟩ | h := h p hp
  · exact .inl ⟨e, m, xs, h1, (fun h => by cases h), h3⟩
  · exact .inr h

theorem store_box (h : Inv w0 T N S g w a) (hT : Tis P G.ti) {t : TypeId} {x y : Operand} (ho : o.op = .store t x y) {i : TInfo} (hi : find G.ti t = some i) {n : Name} {off : Nat} {cs : List Cell} (hx : CellRep (dom S.en) g w (.box n off) (a.eval x))
    (hn : find S.en n = some (.box cs)) (hb : off + i.cs.len ≤ cs.length) (hl : (S.eval y).cells.length = i.cs.len) (hu : noUndef (S.eval y).cells = true) :
    Fine P w0 T N S g w a o ⟨.undef, [(n, .box (setSub cs off (S.eval y).cells))]⟩ := by
  have hne : (S.eval y).cells ≠ [] := fun e => by rw [e] at hl; have := i.cs.len_pos; simp at hl; omega
  obtain ⟨hc, h1⟩ := cells_rep h.mem (eval_rep h y) hu hne
  obtain ⟨b, us, k1, k2, k3, k4⟩ := h.mem.rep n _ hn
  obtain ⟨_, b', k5, hx⟩ := hx
  rw [k2] at k5; cases k5
  have hlen : (a.eval y).cells.toList.length = i.cs.len := hc.length.symm.trans hl
  have hus := k4.length
  have hw := setCells_wrote (a.eval y).cells.toList off w us k3 (by omega)
  obtain ⟨hM, hle⟩ := h.ms.rewrite (E' := .box (setSub cs off (S.eval y).cells)) (F := g.nest n) hn rfl k1 hw (fun hle => ⟨b, _, by simp [Gh.set, k1], by simp [Gh.set, k2], hw.cells, (k4.imp fun _ _ => CellRep.mono hle).setSub (hc.imp fun _ _ => CellRep.mono hle) off⟩) (fun hd => by cases hd)
  exact ⟨undef, _, _, .inr ⟨rfl, store_run hT ho hi hx k3 hlen (by omega) h1⟩, hM, hle, trivial⟩

theorem store_elem (h : Inv w0 T N S g w a) (hT : Tis P G.ti) {t : TypeId} {x y : Operand} (ho : o.op = .store t x y) {i : TInfo} (hi : find G.ti t = some i) {r : Name} {k off : Nat} {f : Cs} {m : Bool} {xs : List f.den} (hx : CellRep (dom S.en) g w (.elem r k off) (a.eval x))
    (hn : find S.en r = some (.root f m xs)) (hb : off + i.cs.len ≤ f.len) (hl : (S.eval y).cells.length = i.cs.len) (hu : noUndef (S.eval y).cells = true) {z : f.den} (hz : xs[k]? = some z) {q : f.den × List (Name × Entry)} {L : List Name}
    (hq : (f.upd m z off (S.eval y).cells).Runs (find S.en) q L) (hd : distinct ((r, .gone) :: q.2) = true) :
    Fine P w0 T N S g w a o ⟨.undef, (r, .root f m (xs.set k q.1)) :: q.2⟩ := by
  have hne : (S.eval y).cells ≠ [] := fun e => by rw [e] at hl; have := i.cs.len_pos; simp at hl; omega
  obtain ⟨hc, h1⟩ := cells_rep h.mem (eval_rep h y) hu hne
  have hlen : (a.eval y).cells.toList.length = i.cs.len := hc.length.symm.trans hl
  obtain ⟨he, hrt, hI, hnd⟩ := root_of h.mem hn
  obtain ⟨hdr, b, o', len, cap0, hloc, hk, hx⟩ := hx
  rw [he] at hx
  have hxs : k < xs.length := (List.getElem?_eq_some_iff.1 hz).1
  obtain ⟨hrq, hdq⟩ := distinct_cons hd
  rcases hrt with ⟨_, rfl, _⟩ | ⟨b1, off0, cap, us, vs, e1, e2, e3, e4, e5, e6, e7⟩
  · simp at hz
  · rw [hloc] at e1; cases e1
    obtain ⟨G1, Gi, G2, hF, hri, hset⟩ := e7.set hz
    have hvl := e7.length
    have hkl : k * f.len + f.len ≤ vs.length := by rw [hvl, ← Nat.succ_mul]; exact Nat.mul_le_mul_right _ hxs
    have hvals : (a.eval y).cells.toList.length + off ≤ f.len := by omega
    have hwlen : o' + (k * f.len + off) + (a.eval y).cells.toList.length ≤ us.length := by
      have : vs.length ≤ cap0 * f.len := by rw [hvl]; exact Nat.mul_le_mul_right _ e3
      omega
    have hw := setCells_wrote (a.eval y).cells.toList (o' + (k * f.len + off)) w us e4 hwlen
    have hui : ((vs.drop (k * f.len)).take f.len).length = f.len := by rw [List.length_take, List.length_drop]; omega
    have hvs : vs = vs.take (k * f.len) ++ (vs.drop (k * f.len)).take f.len ++ vs.drop (k * f.len + f.len) := by
      conv => lhs; rw [← List.take_append_drop (k * f.len) vs, ← List.take_append_drop f.len (vs.drop (k * f.len)), List.drop_drop]
      simp
    have hpatch : patch vs (k * f.len + off) (a.eval y).cells.toList = vs.take (k * f.len) ++ patch ((vs.drop (k * f.len)).take f.len) off (a.eval y).cells.toList ++ vs.drop (k * f.len + f.len) := by
      have hA : (vs.take (k * f.len)).length = k * f.len := by rw [List.length_take]; omega
      have := patch_mid (vs.take (k * f.len)) ((vs.drop (k * f.len)).take f.len) (vs.drop (k * f.len + f.len)) (a.eval y).cells.toList off (by omega)
      rw [← hvs, hA] at this; exact this
    have hrow : ((patch us (o' + (k * f.len + off)) (a.eval y).cells.toList).drop o').take (patch vs (k * f.len + off) (a.eval y).cells.toList).length = patch vs (k * f.len + off) (a.eval y).cells.toList :=
      patch_row e6 (by omega) _ _ (by omega)
    -- the element's data and its blocks
    have key : ∃ F', Cs.Rep w f q.1 (patch ((vs.drop (k * f.len)).take f.len) off (a.eval y).cells.toList) F' ∧ usedOk S.en false true q.2 ∧ (∀ b ∈ F', g.I b ∨ topOf S.en g b (q.2.map (·.1))) ∧
        (m = true → Once (G1 ++ F' ++ G2) ∧ usedOk S.en true true q.2 ∧ ∀ b ∈ G1 ++ F' ++ G2, b ∈ g.nest r ∨ b ∈ (q.2.map (·.1)).flatMap (foot g)) := by
      cases m with
      | false =>
        obtain ⟨⟨F', k1, k2⟩, k3⟩ := upd_shared h.mem hri hc hq
        refine ⟨F', k1, k3, fun b hb => ?_, fun h => by cases h⟩
        rcases k2 b hb with h | h
        · exact .inl (hI b (by rw [hF]; simp [h]))
        · exact h
      | true =>
        obtain ⟨⟨F', k1, k2⟩, k3⟩ := upd_own h.mem hri hc hq
        have hcnt : ∀ b, (G1 ++ F' ++ G2).count b ≤ (g.nest r ++ (q.2.map (·.1)).flatMap (foot g)).count b := fun b => by
          have := k2 b; rw [hF]; simp only [count_app]; omega
        have honce : Once (g.nest r ++ (q.2.map (·.1)).flatMap (foot g)) := by
          obtain ⟨j1, j2⟩ := foots_once h.mem k3 hdq
          rw [once_iff, List.nodup_append]
          refine ⟨hnd rfl, once_iff.1 j1, fun c hc d hd' hcd => ?_⟩
          subst hcd
          exact j2 r _ hn rfl hrq c hd' (by unfold foot; exact List.mem_append_right _ hc)
        refine ⟨F', k1, k3.shallow, fun b hb => ?_, fun _ => ⟨once_of_le honce hcnt, k3, fun b hb => List.mem_append.1 (mem_of_count hb hcnt)⟩⟩
        rcases List.mem_append.1 (mem_of_count (b := b) (l := G1 ++ F' ++ G2) (by simp [hb]) hcnt) with h' | h'
        · exact .inl (hI b h')
        · exact foots_I h.mem k3 h'
    obtain ⟨F', k1, k2, k3, k4⟩ := key
    obtain ⟨g1, hM, hle, f1, f2, f3, f4, fI⟩ := h.ms.useAll k2 hdq
    have hn1 : find (q.2 ++ S.en) r = some (.root f m xs) := (find_skip hrq).trans hn
    have hG : ∀ b ∈ G1 ++ F' ++ G2, g1.I b := fun b hb => (fI b).2 (by
      simp only [List.mem_append] at hb
      rcases hb with (hb | hb) | hb
      · exact .inl (hI b (by rw [hF]; simp [hb]))
      · exact k3 b hb
      · exact .inl (hI b (by rw [hF]; simp [hb])))
    have hL := hset q.1 _ F' k1 (by rw [patch_length (by omega)]; exact hui)
    rw [← hpatch] at hL
    obtain ⟨hM2, hle2⟩ := hM.rewrite (E' := .root f m (xs.set k q.1)) (F := G1 ++ F' ++ G2) hn1 rfl (by rw [f3]; exact e2) hw
      (fun hle2 => ⟨by simp [Gh.set, f2, he], .inr ⟨b, o', cap0, _, _, by simp [Gh.set, f1, hloc], by simp [Gh.set, f3, e2], by simpa using e3, hw.cells, by
          show o' + cap0 * f.len ≤ (patch us _ _).length
          rw [patch_length hwlen]; exact e5, hrow, by
          have : (g1.set r ⟨g1.loc r, g1.esz r, g1.top r, G1 ++ F' ++ G2⟩).nest r = G1 ++ F' ++ G2 := by simp [Gh.set]
          rw [this]
          exact hL.imp fun x v G _ hGs hr => Cs.Rep.of_same (fun c hc => hle2.mem c (hG c (hGs c hc))) hr⟩, by simpa [Gh.set] using hG, fun hm => by
          have : (g1.set r ⟨g1.loc r, g1.esz r, g1.top r, G1 ++ F' ++ G2⟩).nest r = G1 ++ F' ++ G2 := by simp [Gh.set]
          rw [this]; exact once_iff.1 (k4 hm).1⟩)
      (fun hm c hc => by
        obtain ⟨_, j2, j3⟩ := k4 hm
        have hm : m = true := hm
        subst hm
        rw [f4]
        rcases j3 c hc with hcn | hcf
        · refine ⟨fun k' f' hk' hf' hd' => ?_, h.since.nests r _ c hn rfl hcn⟩
          by_cases hin : k' ∈ q.2.map (·.1)
          · rw [(used_names k2 hdq hin hf').1] at hd'; cases hd'
          · rw [find_skip hin] at hf'; exact fun hc' => h.mem.nests r k' _ _ hn hf' rfl hd' (Ne.symm hk') c hcn hc'
        · obtain ⟨j4, j5⟩ := foots_free h.ms j2 hcf
          refine ⟨fun k' f' hk' hf' hd' => ?_, j5⟩
          by_cases hin : k' ∈ q.2.map (·.1)
          · rw [(used_names k2 hdq hin hf').1] at hd'; cases hd'
          · rw [find_skip hin] at hf'; exact j4 k' f' hf' hd' hin)
    refine ⟨undef, _, _, .inr ⟨rfl, ?_⟩, hM2, hle.trans hle2, trivial⟩
    exact store_run hT ho hi (by rw [hx, Nat.add_assoc]) e4 hlen (by omega) h1
theorem op_store (h : Inv w0 T N S g w a) (hT : Tis P G.ti) {t : TypeId} {x y : Operand} (ho : o.op = .store t x y) {e : Eff} {L : List Name} (hr : (eff G uid S.eval (.store t x y)).Runs (find S.en) e L) : Fine P w0 T N S g w a o e := by
  replace hr := ti_some hr
  obtain ⟨i, hi, hr⟩ := hr
  have hx := eval_rep h x
  unfold effStore at hr
  cases hk : (Nat.beq (S.eval y).cells.length i.cs.len && noUndef (S.eval y).cells) with
  | false => rw [hk] at hr; exact hr.elim
  | true =>
    rw [hk] at hr
    simp only [Bool.and_eq_true] at hk
    obtain ⟨hl, hu⟩ := hk
    have hl := Nat.eq_of_beq_eq_true hl
    simp only [cond_true] at hr
    split at hr
    · rename_i n off e1
      rw [e1] at hx
      obtain ⟨L', hL', hr⟩ := hr
      cases hn : find S.en n with
      | none => rw [hn] at hr; exact hr.elim
      | some E =>
        rw [hn] at hr
        cases E with
        | gone => exact hr.elim
        | fwd _ _ => exact hr.elim
        | frz _ _ => exact hr.elim
        | root _ _ _ => exact hr.elim
        | tree _ _ => exact hr.elim
        | box cs =>
          simp only at hr
          cases hb : Nat.ble (off + i.cs.len) cs.length with
          | false => rw [hb] at hr; exact hr.elim
          | true =>
            rw [hb] at hr
            obtain ⟨rfl, _⟩ := hr
            exact store_box h hT ho hi hx hn (ble_le hb) hl hu
    · rename_i r k off e1
      rw [e1] at hx
      obtain ⟨L', hL', hr⟩ := hr
      cases hn : find S.en r with
      | none => rw [hn] at hr; exact hr.elim
      | some E =>
        rw [hn] at hr
        cases E with
        | gone => exact hr.elim
        | fwd _ _ => exact hr.elim
        | frz _ _ => exact hr.elim
        | box _ => exact hr.elim
        | tree _ _ => exact hr.elim
        | root f m xs =>
          simp only at hr
          cases hb : Nat.ble (off + i.cs.len) f.len with
          | false => rw [hb] at hr; exact hr.elim
          | true =>
            rw [hb] at hr
            obtain ⟨z, hz, hr⟩ := hr
            obtain ⟨q, L1, L2, _, hq, hr⟩ := Rd.runs_bind hr
            obtain ⟨_, L3, L4, _, hd, hr⟩ := Rd.runs_bind hr
            obtain ⟨rfl, _⟩ := hr
            exact store_elem h hT ho hi hx hn (ble_le hb) hl hu hz hq (Rd.runs_need hd).1
    · exact hr.elim
end Go.V
namespace Go.V
set_option linter.unusedVariables false
set_option linter.unusedSimpArgs false
variable {P : Program} {w0 : World} {T N : Nat → Prop} {S : St} {g : Gh} {w w' : World} {a : Act} {o : Oper} {G : Env} {uid : Name} {en en' : List (Name × Entry)}

theorem alloc_own (w : World) (c : Array Value) (t : TypeId) : ownBlock (w.alloc (.cells c t)) w.heap.size c.toList :=
  ⟨c, t, 0, 0, heap_alloc_new' w _, rfl, Nat.le_refl _, fun o _ => by omega⟩
theorem MS.newBox (h : MS w0 T N en g w) {n : Name} (hn : find en n = none) {cs : List Cell} {c : Array Value} {t : TypeId} (hc : All2 (CellRep (dom en) g w) cs c.toList) :
    MS w0 T N ((n, .box cs) :: en) (g.set n ⟨.pointer (some ⟨w.heap.size, 0, none⟩), 0, some w.heap.size, []⟩) (w.alloc (.cells c t)) ∧
      Le (dom en) g w (dom ((n, .box cs) :: en)) (g.set n ⟨.pointer (some ⟨w.heap.size, 0, none⟩), 0, some w.heap.size, []⟩) (w.alloc (.cells c t)) := by
  obtain ⟨h1, l1⟩ := h.alloc (.cells c t)
  have hf := h.free
  have l2 := Gh.set_le (g := g) (w := w.alloc (.cells c t)) (n := n) (.box cs) ⟨.pointer (some ⟨w.heap.size, 0, none⟩), 0, some w.heap.size, []⟩ (fun hd => absurd hn hd)
  obtain ⟨h3, l3⟩ := h1.put (n := n) (e := .box cs) (i := ⟨.pointer (some ⟨w.heap.size, 0, none⟩), 0, some w.heap.size, []⟩) (fun hd => absurd hn hd) rfl
    ⟨w.heap.size, c.toList, by simp [Gh.set], by simp [Gh.set], alloc_own w c t, hc.imp fun _ _ => CellRep.mono (l1.trans l2)⟩
    (fun _ b hb => by cases hb; exact ⟨hf.imm, fun m f _ => hf.top m f, hf.own, fun m f _ => hf.wood m f⟩) (fun hd => by cases hd)
  exact ⟨h3, l1.trans l3⟩
theorem zeroCells_rep {D : Name → Prop} : ∀ {e : Cs} {vs : List Value}, zeroOk e vs = true → All2 (CellRep D g w) e.zeroCells vs
  | .one c, [v], h => ⟨one c v h, trivial⟩
  | .cons c r, v :: vs, h => by
    simp only [zeroOk, Bool.and_eq_true] at h
    exact ⟨one c v h.1, zeroCells_rep h.2⟩
  | .one c, [], h => by simp [zeroOk] at h
  | .one c, _ :: _ :: _, h => by simp [zeroOk] at h
  | .cons c r, [], h => by simp [zeroOk] at h
where one : ∀ (c : CT) (v : Value), zeroOk.one c v = true → CellRep D g w (zeroCell c) v
  | .int k, v, h => by have := zeroOk_rep.one (w := w) (.int k) v h; simp only [CT.Rep] at this; exact this.1
  | .bool, v, h => by have := zeroOk_rep.one (w := w) .bool v h; simp only [CT.Rep] at this; exact this.1
  | .str, v, h => by have := zeroOk_rep.one (w := w) .str v h; simp only [CT.Rep] at this; exact this.1
  | .err, v, h => by have := zeroOk_rep.one (w := w) .err v h; simp only [CT.Rep] at this; exact this.2
  | .sl e, v, h => by
    cases v <;> simp [zeroOk.one] at h
    rename_i a len cap
    cases a with
    | some a => simp [zeroOk.one] at h
    | none =>
      cases len <;> cases cap <;> simp [zeroOk.one] at h
      rfl
theorem op_alloc (h : Inv w0 T N S g w a) (hT : Tis P G.ti) {t : TypeId} (ho : o.op = .alloc t) {e : Eff} {L : List Name} (hr : (eff G uid S.eval (.alloc t)).Runs (find S.en) e L) : Fine P w0 T N S g w a o e := by
  replace hr := ti_some hr
  obtain ⟨i, hi, hr⟩ := hr
  obtain ⟨rfl, _, hn⟩ := made_runs hr
  obtain ⟨d, u, z, hf⟩ := hT.facts hi
  have hn := hn _ (List.mem_singleton.2 rfl)
  obtain ⟨hM, hle⟩ := h.ms.newBox (c := z.cells) (t := t) hn (zeroCells_rep hf.zok)
  refine ⟨_, _, _, .inl ?_, hM, hle, ⟨dom_cons.2 (.inl rfl), w.heap.size, by simp [Gh.set], rfl⟩⟩
  simp only [execOp, ho, Instr.alloc, Sem.run_bind, hf.zero_run, Result.andThen, newVar, newRow, run_newObj, Sem.run_pure]
  rfl
theorem op_box (h : Inv w0 T N S g w a) (hT : Tis P G.ti) {t : TypeId} {x : Operand} (ho : o.op = .box t x) {e : Eff} {L : List Name} (hr : (eff G uid S.eval (.box t x)).Runs (find S.en) e L) : Fine P w0 T N S g w a o e := by
  replace hr := ti_some hr
  obtain ⟨i, hi, hr⟩ := hr
  cases hk : (Nat.beq (S.eval x).cells.length i.cs.len && noUndef (S.eval x).cells) with
  | false => rw [hk] at hr; exact hr.elim
  | true =>
    rw [hk] at hr
    simp only [Bool.and_eq_true] at hk
    have hl := Nat.eq_of_beq_eq_true hk.1
    obtain ⟨rfl, _, hn⟩ := made_runs hr
    have hn := hn _ (List.mem_singleton.2 rfl)
    have hne : (S.eval x).cells ≠ [] := fun e => by rw [e] at hl; have := i.cs.len_pos; simp at hl; omega
    obtain ⟨hc, _⟩ := cells_rep h.mem (eval_rep h x) hk.2 hne
    obtain ⟨hM, hle⟩ := h.ms.newBox (c := (a.eval x).cells) (t := t) hn hc
    refine ⟨_, _, _, .inl ?_, hM, hle, ⟨dom_cons.2 (.inl rfl), w.heap.size, by simp [Gh.set], rfl⟩⟩
    simp only [execOp, ho, Instr.box, Sem.run_bind, Result.andThen, newVar, newRow, run_newObj, Sem.run_pure]
    rfl

theorem foldl_patch (off : Nat) (l : List Value) (cs : Array Value) (h : off + l.length ≤ cs.size) :
    ((l.zipIdx 0).foldl (fun cs (x : Value × Nat) => cs.setIfInBounds (off + x.2) x.1) cs).toList = patch cs.toList off l := by
  obtain ⟨h1, h2⟩ := Great.foldl_set off l 0 cs
  apply List.ext_getElem?
  intro k
  rw [Array.getElem?_toList, h2 k]
  simp only [patch, Nat.add_zero]
  by_cases hk : off ≤ k ∧ k < off + l.length ∧ k < cs.size
  · rw [if_pos hk, List.append_assoc, List.getElem?_append_right (by rw [List.length_take]; simp; omega), List.length_take, List.getElem?_append_left (by simp; omega)]
    congr 1; simp; omega
  · rw [if_neg hk]
    by_cases hlt : k < off
    · rw [List.append_assoc, List.getElem?_append_left (by rw [List.length_take]; simp; omega), List.getElem?_take_of_lt hlt]; simp
    · rw [List.getElem?_append_right (by simp; omega), List.getElem?_drop]
      rw [← Array.getElem?_toList]; congr 1; simp; omega
theorem fill_cons (place : Nat → Option (Nat × Nat)) (cells : Array Value) (i : Nat) (v : Value) (rest : List (Nat × Value)) {off size : Nat} (hp : place i = some (off, size)) (hs : v.cells.size = size) (hb : off + v.cells.size ≤ cells.size) :
    ∃ cells' : Array Value, Instr.fill place cells ((i, v) :: rest) = Instr.fill place cells' rest ∧ cells'.toList = patch cells.toList off v.cells.toList ∧ cells'.size = cells.size := by
  refine ⟨_, ?_, foldl_patch off v.cells.toList cells (by simpa using hb), (Great.foldl_set off v.cells.toList 0 cells).1⟩
  simp only [Instr.fill, hp]
  rw [if_neg (by simp [hs]; omega)]
  have : (v.cells.zipIdx.foldl (fun cs (x : Value × Nat) => cs.setIfInBounds (off + x.2) x.1) cells) = (v.cells.toList.zipIdx 0).foldl (fun cs (x : Value × Nat) => cs.setIfInBounds (off + x.2) x.1) cells := by
    rw [← Array.foldl_toList, Array.toList_zipIdx]
  exact congrArg (fun c => Instr.fill place c rest) this
theorem places_of {ti : List (Nat × TInfo)} (hT : Tis P ti) : ∀ {fs : List Field} {fl : List (Nat × Nat)}, fieldsOk ti fs fl = true →
    ∃ places, fs.mapM (fun f => (P.info? f.type).map fun i => (f.offset, i.size)) = some places ∧ ∀ (i : Nat) (p : Nat × Nat), fl[i]? = some p → places[i]? = some (p.2, sizeT ⟨ti, [], [], false⟩ p.1)
  | [], [], _ => ⟨[], rfl, by simp⟩
  | f :: fs, (t, o) :: fl, h => by
    simp only [fieldsOk, Bool.and_eq_true] at h
    obtain ⟨⟨⟨h1, h2⟩, h3⟩, h4⟩ := h
    obtain ⟨places, k1, k2⟩ := places_of hT h4
    obtain rfl := Nat.eq_of_beq_eq_true h1
    obtain rfl := Nat.eq_of_beq_eq_true h2
    obtain ⟨i, hi⟩ := Option.isSome_iff_exists.1 h3
    obtain ⟨d, u, z, hf⟩ := hT.facts hi
    refine ⟨(f.offset, i.cs.len) :: places, ?_, fun j p hj => ?_⟩
    · simp [List.mapM_cons, hf.info, k1, hf.size]
    · cases j with
      | zero => simp at hj; subst hj; simp [sizeT, hi]
      | succ j => simpa using k2 j p (by simpa using hj)
  | [], _ :: _, h => by simp [fieldsOk] at h
  | _ :: _, [], h => by simp [fieldsOk] at h
theorem build_fill (h : Inv w0 T N S g w a) {fl : List (Nat × Nat)} {places : List (Nat × Nat)} (hp : ∀ (i : Nat) (p : Nat × Nat), fl[i]? = some p → places[i]? = some (p.2, sizeT G p.1)) (hpos : ∀ (i : Nat) (p : Nat × Nat), fl[i]? = some p → 0 < sizeT G p.1) :
    ∀ (parts : List (Nat × Operand)) (cs cs' : List Cell) (cells : Array Value), All2 (CellRep (dom S.en) g w) cs cells.toList → buildCells fl (sizeT G) cs (parts.map fun p => (p.1, S.eval p.2)) = some cs' →
    ∃ cells', Instr.fill (places.toArray[·]?) cells (parts.map fun p => (p.1, a.eval p.2)) = some cells' ∧ All2 (CellRep (dom S.en) g w) cs' cells'.toList
  | [], cs, cs', cells, hc, hb => by
    simp only [List.map_nil, buildCells, Option.some.injEq] at hb; subst hb
    exact ⟨cells, rfl, hc⟩
  | (i, x) :: parts, cs, cs', cells, hc, hb => by
    simp only [List.map_cons, buildCells] at hb
    cases hf : fl[i]? with
    | none => rw [hf] at hb; simp at hb
    | some f =>
      rw [hf] at hb
      simp only at hb
      cases hk : (Nat.beq (S.eval x).cells.length (sizeT G f.1) && Nat.ble (f.2 + (S.eval x).cells.length) cs.length && noUndef (S.eval x).cells) with
      | false => rw [hk] at hb; simp at hb
      | true =>
        rw [hk] at hb
        simp only [Bool.and_eq_true] at hk
        obtain ⟨⟨h1, h2⟩, h3⟩ := hk
        have h1 := Nat.eq_of_beq_eq_true h1
        have h2 := ble_le h2
        have hne : (S.eval x).cells ≠ [] := fun e => by rw [e] at h1; have := hpos i f hf; simp at h1; omega
        obtain ⟨hv, _⟩ := cells_rep h.mem (eval_rep h x) h3 hne
        have hsz : (a.eval x).cells.size = sizeT G f.1 := by rw [← h1]; exact hv.length.symm
        have hcs : cs.length = cells.size := hc.length
        obtain ⟨cells1, k1, k2, k3⟩ := fill_cons (places.toArray[·]?) cells i (a.eval x) (parts.map fun p => (p.1, a.eval p.2)) (off := f.2) (size := sizeT G f.1) (by simpa using hp i f hf) hsz (by rw [hsz]; omega)
        obtain ⟨cells', j1, j2⟩ := build_fill h hp hpos parts (setSub cs f.2 (S.eval x).cells) cs' cells1 (by rw [k2]; exact hc.setSub hv f.2) hb
        exact ⟨cells', by rw [List.map_cons, k1, j1], j2⟩
theorem op_build (h : Inv w0 T N S g w a) (hT : Tis P G.ti) {t : TypeId} {parts : Array (Nat × Operand)} (ho : o.op = .build t parts) {e : Eff} {L : List Name} (hr : (eff G uid S.eval (.build t parts)).Runs (find S.en) e L) : Fine P w0 T N S g w a o e := by
  replace hr := ti_some hr
  obtain ⟨i, hi, hr⟩ := hr
  obtain ⟨d, u, z, hf⟩ := hT.facts hi
  cases ha : i.agg with
  | false => rw [ha] at hr; exact hr.elim
  | true =>
    rw [ha] at hr
    simp only [cond_true] at hr
    split at hr
    · rename_i cs hb
      obtain ⟨rfl, _⟩ := hr
      obtain ⟨fs, rfl, hfs⟩ := hf.agg ha
      obtain ⟨places, hp1, hp2⟩ := places_of hT hfs
      have hsz : ∀ t, sizeT G t = sizeT ⟨G.ti, [], [], false⟩ t := fun t => rfl
      have hpos : ∀ (j : Nat) (p : Nat × Nat), i.flds[j]? = some p → 0 < sizeT G p.1 := by
        intro j p hj
        have : ∀ (fs : List Field) (fl : List (Nat × Nat)), fieldsOk G.ti fs fl = true → ∀ (j : Nat) (p : Nat × Nat), fl[j]? = some p → ∃ i, find G.ti p.1 = some i := by
          intro fs
          induction fs with
          | nil => intro fl hfl j p hj; cases fl <;> simp [fieldsOk] at hfl hj
          | cons f fs ih =>
            intro fl hfl j p hj
            cases fl with
            | nil => simp at hj
            | cons q fl =>
              obtain ⟨t', o'⟩ := q
              simp only [fieldsOk, Bool.and_eq_true] at hfl
              cases j with
              | zero => simp at hj; subst hj; exact Option.isSome_iff_exists.1 hfl.1.2
              | succ j => exact ih fl hfl.2 j p (by simpa using hj)
        obtain ⟨i', hi'⟩ := this _ _ hfs j p hj
        simp only [sizeT, hi']; exact i'.cs.len_pos
      obtain ⟨cells, hc1, hc2⟩ := build_fill h (places := places) (fun j p hj => hp2 j p hj) hpos parts.toList i.cs.zeroCells cs z.cells (zeroCells_rep hf.zok) hb
      have hbuilt : P.built t ((parts.map fun p => (p.1, a.eval p.2))).toList = some cells := by
        simp only [Program.built, hf.info, hf.und, hf.zero, hp1, Array.toList_map]
        exact hc1
      refine Fine.pure h (v := .agg cells) ?_ ⟨cells, rfl, hc2⟩
      simp only [execOp, ho, Sem.run_bind]
      rw [run_build w t _ cells hbuilt]
      rfl
    · exact hr.elim
end Go.V
namespace Go.V
set_option linter.unusedVariables false
set_option linter.unusedSimpArgs false
variable {P : Program} {w0 : World} {T N : Nat → Prop} {S : St} {g : Gh} {w w' : World} {a : Act} {o : Oper} {G : Env} {uid : Name} {en en' : List (Name × Entry)}

theorem made_list {z : Array Value} (hz : 0 < z.size) : ∀ k, (madeCells z (k * z.size)).toList = (List.replicate k z.toList).flatten
  | 0 => by simp [madeCells]
  | k + 1 => by
    have ih := made_list hz k
    simp only [madeCells, Array.toList_map, Array.toList_range] at ih ⊢
    rw [Nat.succ_mul, List.range_add, List.map_append, ih, List.replicate_succ', List.flatten_append]
    simp only [List.flatten_cons, List.flatten_nil, List.append_nil, List.map_map]
    congr 1
    apply List.ext_getElem
    · simp
    · intro q h1 h2
      simp only [List.length_map, List.length_range] at h1
      simp [Nat.mod_eq_of_lt h1, Nat.add_comm, Nat.mul_comm k, Nat.add_mul_mod_self_left, h1]
theorem replicate_rep {e : Cs} {x : e.den} {seg : List Value} (h : Cs.Rep w e x seg []) : ∀ k, listRep e.len (Cs.Rep w e) (List.replicate k x) (List.replicate k seg).flatten []
  | 0 => ⟨rfl, rfl⟩
  | k + 1 => ⟨seg, (List.replicate k seg).flatten, [], [], by simp [List.replicate_succ], h.length, rfl, h, replicate_rep h k⟩
theorem slOf_some {i : TInfo} {k : Rd Eff} {e : Eff} {L : List Name} {F : Name → Option Entry} (h : (slOf i k).Runs F e L) : ∃ f, i.agg = false ∧ i.cs = .one (.sl f) ∧ k.Runs F e L := by
  unfold slOf at h
  split at h
  · rename_i f ha hc; exact ⟨f, ha, hc, h⟩
  · exact h.elim
theorem op_makeSlice (h : Inv w0 T N S g w a) (hT : Tis P G.ti) {t : TypeId} {n m : Tmp} (ho : o.op = .makeSlice t (.tmp n) (.tmp m)) {e : Eff} {L : List Name} (hr : (eff G uid S.eval (.makeSlice t (.tmp n) (.tmp m))).Runs (find S.en) e L) : Fine P w0 T N S g w a o e := by
  replace hr := ti_some hr
  obtain ⟨i, hi, hr⟩ := hr
  replace hr := slOf_some hr
  obtain ⟨f, ha, hc, hr⟩ := hr
  replace hr := ti_some hr
  obtain ⟨j, hj, hr⟩ := hr
  cases hb : Nat.beq n m with
  | false => rw [hb] at hr; exact hr.elim
  | true =>
    rw [hb] at hr
    obtain rfl := Nat.eq_of_beq_eq_true hb
    replace hr : (match S.eval (.tmp n) with | .cell (.int _ n) => Rd.opt (mkLen n) fun m => made (.cell (.own uid)) [(uid, .root j.cs true (List.replicate m j.cs.zero))] [] | _ => .fail).Runs (find S.en) e L := hr
    split at hr
    · rename_i k q e1
      have hq : a.eval (.tmp n) = .int k q := eval_cell h e1
      obtain ⟨l, hl, hr⟩ := hr
      obtain ⟨rfl, _, hn⟩ := made_runs hr
      have hn := hn _ (List.mem_singleton.2 rfl)
      obtain ⟨hu, j', d, u, z, hj', hjc, hf⟩ := sl_facts hT hi ha hc
      rw [hj] at hj'; cases hj'
      unfold mkLen at hl
      split at hl
      · rename_i h0
        split at hl
        · rename_i h1
          cases hl
          have hzl : z.cells.size = j.cs.len := (hf.zrep w).length
          have hpos : 0 < z.cells.size := by rw [hzl]; exact j.cs.len_pos
          have hsz : d.size = z.cells.size := by rw [hf.size, hzl]
          have hby := hf.bytes
          have h1' : q ≤ 4294967296 := h1
          have hrun := run_make (P := P) w t i.elem d z hu hf.info hf.zero k k q q h0 (Int.le_refl _) (by
            have : (d.bytes : Int) * q ≤ 8192 * 4294967296 := Int.mul_le_mul (by omega) h1' h0 (by omega)
            omega) (by omega)
          rw [hsz] at hrun
          obtain ⟨hM, hle⟩ := h.ms.alloc (.cells (madeCells z.cells (q.toNat * z.cells.size)) i.elem)
          have hlist := made_list hpos q.toNat
          obtain ⟨hM2, hle2⟩ := hM.root (n := uid) (e := j.cs) (m := true) (xs := List.replicate q.toNat j.cs.zero) (b := w.heap.size) (off := 0) (cap := q.toNat) (us := (madeCells z.cells (q.toNat * z.cells.size)).toList)
            (vs := (madeCells z.cells (q.toNat * z.cells.size)).toList) (F := []) hn h.ms.free (by simp) (alloc_own w _ _) (by simp [size_madeCells, hzl]) (by rw [List.drop_zero]; exact List.take_length) (by rw [hlist]; exact replicate_rep (hf.zrep _) _) (by simp) (by simp)
          refine ⟨_, _, _, .inl ?_, hM2, hle.trans hle2, ⟨dom_cons.2 (.inl rfl), rfl⟩⟩
          simp only [execOp, ho, hq, Sem.run_bind, hrun, Result.andThen, Sem.run_pure, Gh.set, if_true, List.length_replicate]
        · cases hl
      · cases hl
    · exact hr.elim

theorem patch_get {us vals : List Value} {o : Nat} (h : o + vals.length ≤ us.length) (k : Nat) : (patch us o vals)[k]? = if o ≤ k ∧ k < o + vals.length then vals[k - o]? else us[k]? := by
  simp only [patch]
  by_cases hk : o ≤ k ∧ k < o + vals.length
  · rw [if_pos hk, List.append_assoc, List.getElem?_append_right (by rw [List.length_take]; omega), List.length_take, List.getElem?_append_left (by omega)]
    congr 1; omega
  · rw [if_neg hk]
    by_cases hlt : k < o
    · rw [List.append_assoc, List.getElem?_append_left (by rw [List.length_take]; omega), List.getElem?_take_of_lt hlt]
    · rw [List.getElem?_append_right (by simp; omega), List.getElem?_drop]
      congr 1; simp; omega
def seg (us : List Value) (sz j : Nat) : List Value := (us.drop (j * sz)).take sz
theorem seg_get (us : List Value) (sz j q : Nat) (h : q < sz) : (seg us sz j)[q]? = us[j * sz + q]? := by
  unfold seg; rw [List.getElem?_take_of_lt h, List.getElem?_drop]
theorem seg_length {us : List Value} {sz n j : Nat} (h : us.length = n * sz) (hj : j < n) : (seg us sz j).length = sz := by
  unfold seg
  have : j * sz + sz ≤ n * sz := by rw [← Nat.succ_mul]; exact Nat.mul_le_mul_right _ hj
  rw [List.length_take, List.length_drop]; omega
theorem seg_patch {us vals : List Value} {sz n i j : Nat} (h : us.length = n * sz) (hi : i < n) (hj : j < n) (hv : vals.length = sz) : seg (patch us (i * sz) vals) sz j = if j = i then vals else seg us sz j := by
  have hin : i * sz + sz ≤ n * sz := by rw [← Nat.succ_mul]; exact Nat.mul_le_mul_right _ hi
  have hl : (patch us (i * sz) vals).length = n * sz := by rw [patch_length (by omega)]; exact h
  have h1 := seg_length hl hj
  have h2 := seg_length h hj
  apply List.ext_getElem?
  intro q
  by_cases hq : q < sz
  · rw [seg_get _ _ _ _ hq, patch_get (by omega)]
    by_cases hji : j = i
    · subst hji
      rw [if_pos (by omega), if_pos rfl]; congr 1; omega
    · rw [if_neg hji, seg_get _ _ _ _ hq, if_neg]
      intro hc
      rcases Nat.lt_or_gt_of_ne hji with hlt | hgt
      · have : j * sz + sz ≤ i * sz := by rw [← Nat.succ_mul]; exact Nat.mul_le_mul_right _ hlt
        omega
      · have : i * sz + sz ≤ j * sz := by rw [← Nat.succ_mul]; exact Nat.mul_le_mul_right _ hgt
        omega
  · rw [List.getElem?_eq_none (by omega), List.getElem?_eq_none]
    split <;> omega
theorem find_late : ∀ {l : List (Nat × AV)} {n i j : Nat}, partsOk n i l = true → j < i → find l j = none
  | [], _, _, _, _, _ => rfl
  | (k, v) :: l, n, i, j, h, hj => by
    simp only [partsOk, Bool.and_eq_true] at h
    have := ble_le h.1.1
    rw [find_other (by omega)]; exact find_late h.2 (by omega)
theorem fill_rows (h : Inv w0 T N S g w a) {sz n : Nat} (hsz : 0 < sz) : ∀ (parts : List (Nat × Operand)) (i : Nat) (c0 : Nat → List Cell) (cells : Array Value), partsOk n i (parts.map fun p => (p.1, S.eval p.2)) = true →
    ((parts.map fun p => (p.1, S.eval p.2)).all fun p => Nat.beq p.2.cells.length sz && noUndef p.2.cells) = true → cells.size = n * sz → (∀ j, j < n → All2 (CellRep (dom S.en) g w) (c0 j) (seg cells.toList sz j)) →
    ∃ cells', Instr.fill (fun i => some (i * sz, sz)) cells (parts.map fun p => (p.1, a.eval p.2)) = some cells' ∧ cells'.size = n * sz ∧
      ∀ j, j < n → All2 (CellRep (dom S.en) g w) (match find (parts.map fun p => (p.1, S.eval p.2)) j with | some v => v.cells | none => c0 j) (seg cells'.toList sz j)
  | [], i, c0, cells, _, _, hs, hc => ⟨cells, rfl, hs, hc⟩
  | (k, x) :: parts, i, c0, cells, hp, hall, hs, hc => by
    simp only [List.map_cons, partsOk, Bool.and_eq_true, List.all_cons] at hp hall
    obtain ⟨⟨hp1, hp2⟩, hp3⟩ := hp
    obtain ⟨⟨hl, hu⟩, hall⟩ := hall
    have hl := Nat.eq_of_beq_eq_true hl
    have hk : k < n := ble_le hp2
    have hne : (S.eval x).cells ≠ [] := fun e => by rw [e] at hl; simp at hl; omega
    obtain ⟨hv, _⟩ := cells_rep h.mem (eval_rep h x) hu hne
    have hvs : (a.eval x).cells.toList.length = sz := by rw [← hv.length]; exact hl
    have hin : k * sz + sz ≤ n * sz := by rw [← Nat.succ_mul]; exact Nat.mul_le_mul_right _ hk
    obtain ⟨cells1, k1, k2, k3⟩ := fill_cons (fun i => some (i * sz, sz)) cells k (a.eval x) (parts.map fun p => (p.1, a.eval p.2)) (off := k * sz) (size := sz) rfl (by simpa using hvs) (by
      have : (a.eval x).cells.size = sz := by simpa using hvs
      omega)
    obtain ⟨cells', j1, j2, j3⟩ := fill_rows h hsz parts (k + 1) (fun j => if j = k then (S.eval x).cells else c0 j) cells1 hp3 hall (by rw [k3]; exact hs) (fun j hj => by
      rw [k2, seg_patch (by simpa using hs) hk hj hvs]
      by_cases he : j = k
      · simp only [if_pos he]; exact hv
      · simp only [if_neg he]; exact hc j hj)
    refine ⟨cells', by rw [List.map_cons, k1, j1], j2, fun j hj => ?_⟩
    have := j3 j hj
    simp only [List.map_cons, find_cons]
    by_cases he : j = k
    · subst he
      rw [find_late hp3 (Nat.lt_succ_self _)] at this
      simpa using this
    · simp only [if_neg (Ne.symm he)]
      simp only [if_neg he] at this
      exact this
theorem take_seg (us : List Value) (sz i n : Nat) : (us.drop (i * sz)).take ((n + 1) * sz) = seg us sz i ++ (us.drop ((i + 1) * sz)).take (n * sz) := by
  unfold seg
  rw [Nat.succ_mul, Nat.add_comm (n * sz), List.take_add, List.drop_drop, Nat.succ_mul]
theorem rowOf_own (hm : Mem en g w) {e : Cs} {parts : List (Nat × AV)} {us : List Value} : ∀ {n i : Nat} {y : List e.den × List (Name × Entry)} {L : List Name}, (∀ j, i ≤ j → j < i + n → All2 (CellRep (dom en) g w) (rowCells e parts j) (seg us e.len j)) →
    (rowOf e true parts n i).Runs (find en) y L → (∃ F, listRep e.len (Cs.Rep w e) y.1 ((us.drop (i * e.len)).take (n * e.len)) F ∧ ∀ b, F.count b ≤ ((y.2.map (·.1)).flatMap (foot g)).count b) ∧ usedOk en true true y.2 ∧ y.1.length = n
  | 0, i, y, L, _, hr => by
    obtain ⟨rfl, _⟩ := hr
    exact ⟨⟨[], ⟨by simp, rfl⟩, by simp⟩, by simp [usedOk], rfl⟩
  | n + 1, i, y, L, hc, hr => by
    simp only [rowOf] at hr
    obtain ⟨p, L1, L2, _, h1, hr⟩ := Rd.runs_bind hr
    obtain ⟨q, L3, L4, _, h2, hr⟩ := Rd.runs_bind hr
    obtain ⟨rfl, _⟩ := hr
    have hci := hc i (Nat.le_refl _) (by omega)
    obtain ⟨k1, k2⟩ := Cs.into_own hm hci h1
    obtain ⟨⟨F, k3, k4⟩, k5, k6⟩ := rowOf_own hm (n := n) (i := i + 1) (fun j h1 h2 => hc j (by omega) (by omega)) h2
    refine ⟨⟨(p.2.map (·.1)).flatMap (foot g) ++ F, ?_, fun b => ?_⟩, k2.append k5, by simp [k6]⟩
    · rw [take_seg]
      exact ⟨_, _, _, _, rfl, k1.rep.length, rfl, k1.rep, k3⟩
    · have := k4 b
      simp only [count_app, List.map_append, List.flatMap_append]; omega
theorem rowOf_shared (hm : Mem en g w) {e : Cs} {parts : List (Nat × AV)} {us : List Value} : ∀ {n i : Nat} {y : List e.den × List (Name × Entry)} {L : List Name}, (∀ j, i ≤ j → j < i + n → All2 (CellRep (dom en) g w) (rowCells e parts j) (seg us e.len j)) →
    (rowOf e false parts n i).Runs (find en) y L → (∃ F, listRep e.len (Cs.Rep w e) y.1 ((us.drop (i * e.len)).take (n * e.len)) F ∧ ∀ b ∈ F, g.I b ∨ topOf en g b (y.2.map (·.1))) ∧ usedOk en false true y.2 ∧ y.1.length = n
  | 0, i, y, L, _, hr => by
    obtain ⟨rfl, _⟩ := hr
    exact ⟨⟨[], ⟨by simp, rfl⟩, by simp⟩, by simp [usedOk], rfl⟩
  | n + 1, i, y, L, hc, hr => by
    simp only [rowOf] at hr
    obtain ⟨p, L1, L2, _, h1, hr⟩ := Rd.runs_bind hr
    obtain ⟨q, L3, L4, _, h2, hr⟩ := Rd.runs_bind hr
    obtain ⟨rfl, _⟩ := hr
    have hci := hc i (Nat.le_refl _) (by omega)
    obtain ⟨⟨F0, k1, k0⟩, k2⟩ := Cs.into_shared hm hci h1
    obtain ⟨⟨F, k3, k4⟩, k5, k6⟩ := rowOf_shared hm (n := n) (i := i + 1) (fun j h1 h2 => hc j (by omega) (by omega)) h2
    refine ⟨⟨F0 ++ F, ?_, fun b hb => ?_⟩, k2.append k5, by simp [k6]⟩
    · rw [take_seg]
      exact ⟨_, _, _, _, rfl, k1.length, rfl, k1, k3⟩
    · rcases List.mem_append.1 hb with hb | hb
      · exact (k0 b hb).imp id fun h => h.mono (by simp +contextual)
      · exact (k4 b hb).imp id fun h => h.mono (by simp +contextual)
structure Fed (w0 : World) (T N : Nat → Prop) (en : List (Name × Entry)) (g : Gh) (w : World) (m : Bool) (used : List (Name × Entry)) (F : List Nat) : Prop where
  ok : usedOk en m true used
  imm : ∀ b ∈ F, g.I b ∨ topOf en g b (used.map (·.1))
  once : m = true → Once F ∧ ∀ b ∈ F, b ∈ (used.map (·.1)).flatMap (foot g)
theorem MS.fedRoot (h : MS w0 T N en g w) {n : Name} {e : Cs} {m : Bool} {xs : List e.den} {b off cap : Nat} {us vs : List Value} {F : List Nat} {used : List (Name × Entry)} (hfed : Fed w0 T N en g w m used F) (hd : distinct used = true)
    (hn : find en n = none) {c : Array Value} {t : TypeId} (hc : us = c.toList) (hcap : xs.length ≤ cap) (hsize : off + cap * e.len ≤ us.length) (hrow : (us.drop off).take vs.length = vs) (hL : listRep e.len (Cs.Rep w e) xs vs F) :
    ∃ g', MS w0 T N ((n, .root e m xs) :: (used ++ en)) g' (w.alloc (.cells c t)) ∧ Le (dom en) g w (dom ((n, .root e m xs) :: (used ++ en))) g' (w.alloc (.cells c t)) ∧ g'.loc n = .slice (some ⟨w.heap.size, off, none⟩) xs.length cap := by
  obtain ⟨g1, hM, hle, f1, f2, f3, f4, fI⟩ := h.useAll hfed.ok.shallow hd
  have hnu : n ∉ used.map (·.1) := fun hm => by
    obtain ⟨p, hp, rfl⟩ := List.mem_map.1 hm
    exact usedOk_dom hfed.ok hp hn
  obtain ⟨hM2, hle2⟩ := hM.alloc (.cells c t)
  have hI : ∀ b ∈ F, g1.I b := fun b hb => (fI b).2 (hfed.imm b hb)
  obtain ⟨hM3, hle3⟩ := hM2.root (n := n) (e := e) (m := m) (xs := xs) (b := w.heap.size) (off := off) (cap := cap) (us := us) (vs := vs) (F := F) ((find_skip hnu).trans hn) hM.free hcap (by rw [hc]; exact alloc_own w c t) hsize hrow
    (hL.imp fun x v Gs _ hGs hr => Cs.Rep.of_same (fun c hc => hle2.mem c (hI c (hGs c hc))) hr) hI (fun hm => by
      obtain ⟨j1, j2⟩ := hfed.once hm
      refine ⟨once_iff.1 j1, fun b hb => ?_⟩
      have hok := hfed.ok
      rw [hm] at hok
      obtain ⟨j4, j5⟩ := foots_free h hok (j2 b hb)
      refine ⟨fun k f hk hfd => ?_, j5⟩
      rw [f4]
      by_cases hin : k ∈ used.map (·.1)
      · rw [(used_names hfed.ok hd hin hk).1] at hfd; cases hfd
      · rw [find_skip hin] at hk; exact j4 k f hk hfd hin)
  exact ⟨_, hM3, (hle.trans hle2).trans hle3, by simp [Gh.set]⟩
theorem once_foots (hm : Mem en g w) {used : List (Name × Entry)} {F : List Nat} (hok : usedOk en true true used) (hd : distinct used = true) (hc : ∀ b, F.count b ≤ ((used.map (·.1)).flatMap (foot g)).count b) :
    Fed w0 T N en g w true used F :=
  ⟨hok, fun b hb => foots_I hm hok (mem_of_count hb hc), fun _ => ⟨once_of_le (foots_once hm hok hd).1 hc, fun b hb => mem_of_count hb hc⟩⟩
theorem op_buildSlice (h : Inv w0 T N S g w a) (hT : Tis P G.ti) {t : TypeId} {n : Nat} {parts : Array (Nat × Operand)} (ho : o.op = .buildSlice t n parts) {e : Eff} {L : List Name} (hr : (eff G uid S.eval (.buildSlice t n parts)).Runs (find S.en) e L)
    : Fine P w0 T N S g w a o e := by
  replace hr := ti_some hr
  obtain ⟨i, hi, hr⟩ := hr
  replace hr := slOf_some hr
  obtain ⟨f, ha, hc, hr⟩ := hr
  replace hr := ti_some hr
  obtain ⟨j, hj, hr⟩ := hr
  obtain ⟨hu, j', d, u, z, hj', hjc, hf⟩ := sl_facts hT hi ha hc
  rw [hj] at hj'; cases hj'
  subst hjc
  unfold effBuildSlice at hr
  generalize hpl : (parts.toList.map fun p => (p.1, S.eval p.2)) = pl at hr
  cases hk : (Nat.ble (n * j.cs.len) 16777216 && partsOk n 0 pl && pl.all fun p => Nat.beq p.2.cells.length j.cs.len && noUndef p.2.cells) with
  | false => rw [hk] at hr; exact hr.elim
  | true =>
    rw [hk] at hr
    simp only [Bool.and_eq_true] at hk
    obtain ⟨⟨hk1, hk2⟩, hk3⟩ := hk
    obtain ⟨y, L1, L2, _, h1, hr⟩ := Rd.runs_bind hr
    obtain ⟨_, L3, L4, _, hd, hr⟩ := Rd.runs_bind hr
    have hd := (Rd.runs_need hd).1
    obtain ⟨rfl, _, hn⟩ := made_runs hr
    have hn := hn _ (List.mem_singleton.2 rfl)
    have hzl : z.cells.size = j.cs.len := (hf.zrep w).length
    have hpos : 0 < z.cells.size := by rw [hzl]; exact j.cs.len_pos
    have hsz : d.size = z.cells.size := by rw [hf.size, hzl]
    obtain ⟨cells, k1, k2, k3⟩ := fill_rows h (sz := j.cs.len) (n := n) j.cs.len_pos parts.toList 0 (fun _ => j.cs.zeroCells) (madeCells z.cells (n * z.cells.size)) (by rw [hpl]; exact hk2) (by rw [hpl]; exact hk3) (by rw [size_madeCells, hzl]) (fun q hq => by
      have hz : seg (madeCells z.cells (n * z.cells.size)).toList j.cs.len q = z.cells.toList := by
        rw [made_list hpos]
        have hrep : ∀ (n q : Nat), q < n → seg (List.replicate n z.cells.toList).flatten j.cs.len q = z.cells.toList := by
          intro n
          induction n with
          | zero => intro q hq; omega
          | succ n ih =>
            intro q hq
            have hlen : z.cells.toList.length = j.cs.len := by simpa using hzl
            unfold seg at ih ⊢
            rw [List.replicate_succ, List.flatten_cons]
            cases q with
            | zero => rw [Nat.zero_mul, List.drop_zero, ← hlen, List.take_left]
            | succ q =>
              rw [Nat.succ_mul, List.drop_append, List.drop_of_length_le (by omega), List.nil_append, show q * j.cs.len + j.cs.len - z.cells.toList.length = q * j.cs.len by omega]
              exact ih q (by omega)
        exact hrep n q hq
      rw [hz]; exact zeroCells_rep hf.zok)
    rw [hpl] at k3
    have hrows : ∀ q, 0 ≤ q → q < 0 + n → All2 (CellRep (dom S.en) g w) (rowCells j.cs pl q) (seg cells.toList j.cs.len q) := fun q _ hq => k3 q (by omega)
    have htake : (cells.toList.drop (0 * j.cs.len)).take (n * j.cs.len) = cells.toList := by
      rw [Nat.zero_mul, List.drop_zero, ← k2]; exact List.take_length
    have key : ∃ F, listRep j.cs.len (Cs.Rep w j.cs) y.1 cells.toList F ∧ Fed w0 T N S.en g w (partsOwn pl) y.2 F ∧ y.1.length = n := by
      cases hm : partsOwn pl with
      | true =>
        rw [hm] at h1
        obtain ⟨⟨F, j1, j2⟩, j3, j4⟩ := rowOf_own h.mem hrows h1
        rw [htake] at j1
        exact ⟨F, j1, once_foots h.mem j3 hd j2, j4⟩
      | false =>
        rw [hm] at h1
        obtain ⟨⟨F, j1, j2⟩, j3, j4⟩ := rowOf_shared h.mem hrows h1
        rw [htake] at j1
        exact ⟨F, j1, ⟨j3, j2, fun h => by cases h⟩, j4⟩
    obtain ⟨F, j1, j2, j3⟩ := key
    obtain ⟨g', hM, hle, hloc⟩ := h.ms.fedRoot (n := uid) (b := 0) (off := 0) (cap := n) (c := cells) (t := i.elem) j2 hd hn rfl (by omega) (by simp [k2]) (by rw [List.drop_zero]; exact List.take_length) j1
    refine ⟨_, _, _, .inl ?_, hM, hle, ⟨dom_cons.2 (.inl rfl), rfl⟩⟩
    rw [hloc, j3]
    have hsmall : ¬ n * d.size > 2 ^ 24 := by have := ble_le hk1; rw [hsz, hzl]; omega
    have hfill : Instr.fill (fun i => some (i * d.size, d.size)) ((Array.range (n * d.size)).map (z.cells[· % z.cells.size]!)) (parts.map fun p => (p.1, a.eval p.2)).toList = some cells := by
      rw [Array.toList_map, hsz]
      rw [← hzl] at k1
      exact k1
    simp only [execOp, ho, Sem.run_bind]
    by_cases h0 : n * d.size = 0
    · have hn0 : n = 0 := by
        rcases Nat.mul_eq_zero.1 h0 with h | h
        · exact h
        · rw [hsz] at h; omega
      subst hn0
      have hp0 : parts = #[] := by
        cases hpp : parts.toList with
        | nil => exact Array.toList_eq_nil_iff.1 hpp
        | cons p ps =>
          rw [hpp] at hpl; subst hpl
          simp [partsOk] at hk2
      subst hp0
      have hc0 : cells = #[] := by
        apply Array.eq_empty_of_size_eq_zero; simpa using k2
      subst hc0
      simp [Instr.buildSlice, run_underlying hu, sizeOf, typeInfo, hf.info, Instr.fill, newRow, Result.andThen]
      exact congrArg (fun c => w.alloc (.cells c i.elem)) (show (Array.range 0).map (fun _ => (default : Value)) = #[] from by apply Array.ext'; simp)
    · rw [run_buildSlice w t i.elem n _ cells d z hu hf.info hf.zero hsmall h0 hfill]
      rfl
end Go.V
namespace Go.V
set_option linter.unusedVariables false
set_option linter.unusedSimpArgs false
variable {P : Program} {w0 : World} {T N : Nat → Prop} {S : St} {g : Gh} {w w' : World} {a : Act} {o : Oper} {G : Env} {uid : Name} {en en' : List (Name × Entry)}

theorem listRep.split {α : Type} {n : Nat} {R : α → List Value → List Nat → Prop} : ∀ (k : Nat) {xs : List α} {vs : List Value} {F : List Nat}, listRep n R xs vs F →
    ∃ F1 F2, F = F1 ++ F2 ∧ listRep n R (xs.take k) (vs.take (k * n)) F1 ∧ listRep n R (xs.drop k) (vs.drop (k * n)) F2
  | 0, xs, vs, F, h => ⟨[], F, rfl, by simp [listRep], by simpa using h⟩
  | k + 1, [], vs, F, h => by
    obtain ⟨rfl, rfl⟩ := h
    exact ⟨[], [], rfl, by simp [listRep], by simp [listRep]⟩
  | k + 1, x :: xs, vs, F, h => by
    obtain ⟨v1, v2, F1, F2, rfl, h1, rfl, hr, h⟩ := h
    obtain ⟨G1, G2, rfl, k1, k2⟩ := h.split k
    have e : (k + 1) * n = v1.length + k * n := by rw [h1, Nat.succ_mul, Nat.add_comm]
    refine ⟨F1 ++ G1, G2, by simp, ?_, ?_⟩
    · rw [e, List.take_append, List.take_of_length_le (l := v1) (by omega), Nat.add_sub_cancel_left, List.take_succ_cons]
      exact ⟨v1, _, F1, G1, rfl, h1, rfl, hr, k1⟩
    · rw [e, List.drop_append, List.drop_of_length_le (l := v1) (by omega), Nat.add_sub_cancel_left, List.drop_succ_cons]
      exact k2
theorem CT.Rep.one {c : CT} {x : c.den} {v : Value} {F : List Nat} (h : CT.Rep w c x v F) : v.oneCell' = true := by
  cases c with
  | int => simp only [CT.Rep] at h; rw [h.1]; rfl
  | bool => simp only [CT.Rep] at h; rw [h.1]; rfl
  | str => simp only [CT.Rep] at h; rw [h.1]; rfl
  | err => simp only [CT.Rep] at h; rcases h with ⟨_, ⟨_, rfl⟩ | ⟨_, _, _, rfl⟩⟩ <;> rfl
  | sl e => obtain ⟨_, _, rfl⟩ := sl_shape h; rfl
theorem Cs.Rep.one : ∀ {e : Cs} {x : e.den} {vs : List Value} {F : List Nat}, Cs.Rep w e x vs F → ∀ u ∈ vs, u.oneCell' = true
  | .one c, x, vs, F, h, u, hu => by
    simp only [Cs.Rep] at h; obtain ⟨v, rfl, h⟩ := h
    rw [List.mem_singleton.1 hu]; exact h.one
  | .cons c r, x, vs, F, h, u, hu => by
    simp only [Cs.Rep] at h; obtain ⟨v, vs', F1, F2, rfl, rfl, h1, h2⟩ := h
    rcases List.mem_cons.1 hu with rfl | hu
    · exact h1.one
    · exact h2.one u hu
theorem listRep_one {e : Cs} : ∀ {xs : List e.den} {vs : List Value} {F : List Nat}, listRep e.len (Cs.Rep w e) xs vs F → ∀ u ∈ vs, u.oneCell' = true
  | [], vs, F, h, u, hu => by rw [h.1] at hu; simp at hu
  | x :: xs, vs, F, h, u, hu => by
    obtain ⟨v1, v2, F1, F2, rfl, h1, rfl, hr, h⟩ := h
    rcases List.mem_append.1 hu with hu | hu
    · exact hr.one u hu
    · exact listRep_one h u hu
theorem CT.Rep.flat {c : CT} (hs : c.isSl = false) {x : c.den} {v : Value} {F : List Nat} (h : CT.Rep w c x v F) : F = [] := by
  cases c with
  | int => simp only [CT.Rep] at h; exact h.2
  | bool => simp only [CT.Rep] at h; exact h.2
  | str => simp only [CT.Rep] at h; exact h.2
  | err => simp only [CT.Rep] at h; exact h.1
  | sl e => simp [CT.isSl] at hs
theorem Cs.Rep.flat : ∀ {e : Cs} (hs : e.hasSl = false) {x : e.den} {vs : List Value} {F : List Nat}, Cs.Rep w e x vs F → F = []
  | .one c, hs, x, vs, F, h => by simp only [Cs.Rep] at h; obtain ⟨v, rfl, h⟩ := h; exact h.flat hs
  | .cons c r, hs, x, vs, F, h => by
    simp only [Cs.hasSl, Bool.or_eq_false_iff] at hs
    simp only [Cs.Rep] at h; obtain ⟨v, vs', F1, F2, rfl, rfl, h1, h2⟩ := h
    rw [h1.flat hs.1, h2.flat hs.2]; rfl
theorem listRep_flat {e : Cs} (hs : e.hasSl = false) : ∀ {xs : List e.den} {vs : List Value} {F : List Nat}, listRep e.len (Cs.Rep w e) xs vs F → F = []
  | [], _, _, h => h.2
  | x :: xs, _, _, h => by
    obtain ⟨v1, v2, F1, F2, rfl, h1, rfl, hr, h⟩ := h
    rw [hr.flat hs, listRep_flat hs h]; rfl

structure Dst (w : World) (en : List (Name × Entry)) (g : Gh) (e : Cs) (xs : List e.den) (v : Value) (r : Name) (m : Bool) (F : List Nat) : Prop where
  ent : ∃ ys : List e.den, find en r = some (.root e m ys)
  rep : rootRep w e xs v (g.top r) F
  cnt : ∀ b, F.count b ≤ (g.nest r).count b
theorem dst_sound (hm : Mem en g w) {e : Cs} {c : Cell} {v : Value} {y : List e.den × Option Bool × List (Name × Entry)} {L : List Name} (hc : CellRep (dom en) g w c v) (hr : (dstL e c).Runs (find en) y L) :
    (v = .slice none 0 0 ∧ y = ([], none, [])) ∨ ∃ xs r m F, y = (xs, some m, [(r, .gone)]) ∧ Dst w en g e xs v r m F := by
  cases c <;> try exact hr.elim
  case nil => obtain ⟨rfl, _⟩ := hr; exact .inl ⟨hc, rfl⟩
  case own r =>
    obtain ⟨L', rfl, hr⟩ := hr
    obtain ⟨_, rfl⟩ := hc
    cases hn : find en r with
    | none => rw [hn] at hr; exact hr.elim
    | some f =>
      rw [hn] at hr
      cases f with
      | tree => exact hr.elim
      | gone => exact hr.elim
      | box _ => exact hr.elim
      | fwd f ys => exact hr.elim
      | frz _ _ => exact hr.elim
      | root f m ys =>
        simp only at hr; split at hr
        · rename_i h _; subst h
          obtain ⟨rfl, _⟩ := hr
          obtain ⟨_, h2, _⟩ := root_of hm hn
          exact .inr ⟨ys, r, m, _, rfl, ⟨ys, hn⟩, h2, fun _ => Nat.le_refl _⟩
        · exact hr.elim
  case win r lo hi =>
    obtain ⟨L', rfl, hr⟩ := hr
    obtain ⟨_, hlh, ad, len, cap, hloc, hhi, hv⟩ := hc
    cases hn : find en r with
    | none => rw [hn] at hr; exact hr.elim
    | some f =>
      rw [hn] at hr
      cases f with
      | tree => exact hr.elim
      | gone => exact hr.elim
      | box _ => exact hr.elim
      | fwd f ys => exact hr.elim
      | frz _ _ => exact hr.elim
      | root f m ys =>
        simp only at hr; split at hr
        · rename_i h _; subst h
          obtain ⟨rfl, _⟩ := hr
          obtain ⟨he, h2, _⟩ := root_of hm hn
          rw [hloc] at h2
          rw [he] at hv
          refine .inr ⟨(ys.take hi).drop lo, r, m, ?_⟩
          rcases h2 with ⟨h1, rfl, h3, h4⟩ | ⟨b, off, cap', us, vs, h1, h3, h5, h6, h7, h8, h9⟩
          · cases h1
            obtain rfl : hi = 0 := by omega
            obtain rfl : lo = 0 := by omega
            exact ⟨[], rfl, ⟨[], hn⟩, .inl ⟨by simpa using hv, by simp, h3, rfl⟩, by simp⟩
          · cases h1
            have hlen : ((ys.take hi).drop lo).length = hi - lo := by simp; omega
            obtain ⟨F1, F2, e1, k1, k2⟩ := h9.split hi
            obtain ⟨F3, F4, e3, k3, k4⟩ := k1.split lo
            have hvs := h9.length
            refine ⟨F4, rfl, ⟨ys, hn⟩, .inr ⟨b, if cap = lo then off else off + lo * f.len, cap - lo, us, (vs.take (hi * f.len)).drop (lo * f.len), ?_, h3, ?_, h6, ?_, ?_, k4⟩, fun c => by rw [e1, e3]; simp only [count_app]; omega⟩
            · rw [hlen, hv]; split
              · rfl
              · simp only [Option.map_some, addr_add]
            · omega
            · split
              · rename_i e; subst e; simp; omega
              · have : (cap - lo) * f.len + lo * f.len = cap * f.len := by rw [← Nat.add_mul]; congr 1; omega
                omega
            · have key := sub_row us vs off (lo * f.len) (hi * f.len) h8 (Nat.mul_le_mul_right _ hlh) (by rw [hvs]; exact Nat.mul_le_mul_right _ hhi)
              split
              · rename_i e; subst e
                obtain rfl : hi = cap := by omega
                have e0 : (vs.take (hi * f.len)).drop (hi * f.len) = [] := List.drop_of_length_le (by rw [List.length_take]; omega)
                rw [e0]; simp
              · exact key
        · exact hr.elim

theorem src_of (hT : Tis P G.ti) {tx : TypeId} {e' : TypeId} (hu : P.underlying tx = some (.slice e')) {e : Cs} {ys : List e.den} {v : Value} {F : List Nat} (h : CT.Rep w (.sl e) ys v F) :
    ∃ news F', Src P e.len tx v ys.length news w ∧ listRep e.len (Cs.Rep w e) ys news F' ∧ ∀ b ∈ F', b ∈ F := by
  rw [rep_sl] at h
  rcases h with ⟨⟨a, rfl⟩, rfl, rfl⟩ | ⟨b, off, cap, vs, F', rfl, rfl, _, _, hr, hL⟩
  · cases a with
    | none => exact ⟨[], [], Src.ofNil w hu 0, ⟨rfl, rfl⟩, by simp⟩
    | some a => exact ⟨[], [], Src.ofSlice w hu a 0 0 [] (by simp) (by simp) (by simp), ⟨rfl, rfl⟩, by simp⟩
  · exact ⟨vs, F', Src.ofSlice w hu ⟨b, off, none⟩ ys.length cap vs hL.length (fun j u hj => by rw [addr_add]; exact cell_row hr j u hj) (listRep_one hL), hL, fun b hb => by simp [hb]⟩
theorem src_tail (hT : Tis P G.ti) {tx : TypeId} {e' : TypeId} (hu : P.underlying tx = some (.slice e')) {e : Cs} {ys : List e.den} {v : Value} {F : List Nat} (h : slRep w e.len (Cs.Rep w e) ys v F) :
    ∃ news, Src P e.len tx v ys.length news w ∧ listRep e.len (Cs.Rep w e) ys news F.tail := by
  rcases h with ⟨⟨a, rfl⟩, rfl, rfl⟩ | ⟨b, off, cap, vs, F', rfl, rfl, _, _, hr, hL⟩
  · cases a with
    | none => exact ⟨[], Src.ofNil w hu 0, ⟨rfl, rfl⟩⟩
    | some a => exact ⟨[], Src.ofSlice w hu a 0 0 [] (by simp) (by simp) (by simp), ⟨rfl, rfl⟩⟩
  · exact ⟨vs, Src.ofSlice w hu ⟨b, off, none⟩ ys.length cap vs hL.length (fun j u hj => by rw [addr_add]; exact cell_row hr j u hj) (listRep_one hL), hL⟩
theorem src_root (hT : Tis P G.ti) {tx : TypeId} {e' : TypeId} (hu : P.underlying tx = some (.slice e')) {e : Cs} {ys : List e.den} {v : Value} {tp : Option Nat} {F : List Nat} (h : rootRep w e ys v tp F) :
    ∃ news, Src P e.len tx v ys.length news w ∧ listRep e.len (Cs.Rep w e) ys news F := by
  rcases h with ⟨rfl, rfl, rfl, rfl⟩ | ⟨b, off, cap, us, vs, rfl, rfl, _, h4, _, h6, hL⟩
  · exact ⟨[], Src.ofNil w hu 0, rfl, rfl⟩
  · exact ⟨vs, Src.ofSlice w hu ⟨b, off, none⟩ ys.length cap vs hL.length (fun j u hj => by rw [addr_add]; exact cell_row (h4.row_at h6) j u hj) (listRep_one hL), hL⟩
theorem src_sound (hm : Mem en g w) (hT : Tis P G.ti) {tx : TypeId} {e' : TypeId} (hu : P.underlying tx = some (.slice e')) {e : Cs} {c : Cell} {v : Value} {y : List e.den × Option Bool × List (Name × Entry)} {L : List Name} (hc : CellRep (dom en) g w c v) (hr : (srcL e c).Runs (find en) y L) :
    ∃ news F, Src P e.len tx v y.1.length news w ∧ listRep e.len (Cs.Rep w e) y.1 news F ∧ usedOk en false true y.2.2 ∧ (∀ b ∈ F, g.I b ∨ topOf en g b (y.2.2.map (·.1))) ∧
      (y.2.1 = some true → usedOk en true true y.2.2 ∧ ∀ b, F.count b ≤ ((y.2.2.map (·.1)).flatMap (foot g)).count b) ∧ (y.2.1 = none → F = [] ∧ y.2.2 = []) := by
  unfold srcL at hr
  cases hs : e.hasSl with
  | false =>
    rw [hs] at hr
    obtain ⟨xs, L1, L2, _, h1, h2⟩ := Rd.runs_bind hr
    obtain ⟨rfl, _⟩ := h2
    obtain ⟨F, hF, _⟩ := readL_sound hm hc h1
    obtain ⟨news, F', k1, k2, _⟩ := src_of hT hu hF
    obtain rfl := listRep_flat hs k2
    exact ⟨news, [], k1, k2, by simp [usedOk], by simp, (fun h => by cases h), fun _ => ⟨rfl, rfl⟩⟩
  | true =>
    rw [hs] at hr
    simp only [cond_true] at hr
    cases c <;> try exact hr.elim
    case nil =>
      obtain ⟨rfl, _⟩ := hr
      obtain rfl : v = .slice none 0 0 := hc
      exact ⟨[], [], Src.ofNil w hu 0, ⟨rfl, rfl⟩, by simp [usedOk], by simp, (fun h => by cases h), fun _ => ⟨rfl, rfl⟩⟩
    case sh f xs =>
      simp only at hr
      split at hr
      · rename_i h _; subst h
        obtain ⟨rfl, _⟩ := hr
        obtain ⟨F, hF, hI⟩ := hc
        obtain ⟨news, F', k1, k2, k3⟩ := src_of hT hu hF
        exact ⟨news, F', k1, k2, by simp [usedOk], fun b hb => .inl (hI b (k3 b hb)), (fun h => by cases h), (fun h => by cases h)⟩
      · exact hr.elim
    case win r lo hi =>
      obtain ⟨L', rfl, hr⟩ := hr
      obtain ⟨_, h1, a, len, cap, hl, h2, rfl⟩ := hc
      cases hn : find en r with
      | none => rw [hn] at hr; exact hr.elim
      | some f =>
        rw [hn] at hr
        cases f with
        | tree => exact hr.elim
        | gone => exact hr.elim
        | box _ => exact hr.elim
        | fwd f ys => exact hr.elim
        | frz _ _ => exact hr.elim
        | root f m ys =>
          simp only at hr; split at hr
          · rename_i h _; subst h
            obtain ⟨rfl, _⟩ := hr
            obtain ⟨he, h3, h4, _⟩ := root_of hm hn
            have h5 := h3.slRep
            rw [hl] at h5
            obtain ⟨G', hG, _, hs'⟩ := h5.cut2 h1 h2
            obtain ⟨news, k1, k2⟩ := src_tail hT hu hG
            refine ⟨news, G'.tail, by rw [he]; exact k1, k2, by simp [usedOk], fun b hb => .inl (h4 b ?_), (fun h => by cases h), (fun h => by cases h)⟩
            have := hs' b hb
            cases ht : g.top r with
            | none => rw [ht] at this; exact List.mem_of_mem_tail (by simpa using this)
            | some t => rw [ht] at this; simpa using this
          · exact hr.elim
    case own r =>
      obtain ⟨L', rfl, hr⟩ := hr
      obtain ⟨_, rfl⟩ := hc
      cases hn : find en r with
      | none => rw [hn] at hr; exact hr.elim
      | some f =>
        rw [hn] at hr
        cases f with
        | tree => exact hr.elim
        | gone => exact hr.elim
        | box _ => exact hr.elim
        | frz _ _ => exact hr.elim
        | fwd f ys =>
          simp only at hr; split at hr
          · rename_i h _; subst h
            obtain ⟨rfl, _⟩ := hr
            obtain ⟨F, hF, hI⟩ := hm.rep r _ hn
            obtain ⟨news, F', k1, k2, k3⟩ := src_of hT hu hF
            exact ⟨news, F', k1, k2, by simp [usedOk], fun b hb => .inl (hI b (k3 b hb)), (fun h => by cases h), (fun h => by cases h)⟩
          · exact hr.elim
        | root f m ys =>
          simp only at hr; split at hr
          · rename_i h _; subst h
            obtain ⟨rfl, _⟩ := hr
            obtain ⟨_, h2, hI, _⟩ := root_of hm hn
            obtain ⟨news, k1, k2⟩ := src_root hT hu h2
            refine ⟨news, _, k1, k2, ?_, fun b hb => .inl (hI b hb), fun h => ?_, (fun h => by cases h)⟩
            · intro p hp
              obtain rfl := List.mem_singleton.1 hp
              exact .inl ⟨f, m, ys, hn, (fun h => by cases h), rfl⟩
            · obtain rfl : m = true := by cases h; rfl
              refine ⟨fun p hp => ?_, fun b => ?_⟩
              · obtain rfl := List.mem_singleton.1 hp
                exact .inl ⟨f, true, ys, hn, fun _ => rfl, rfl⟩
              · simp only [List.map_cons, List.map_nil, List.flatMap_cons, List.flatMap_nil, List.append_nil, foot, count_app]; omega
          · exact hr.elim
end Go.V
namespace Go.V
set_option linter.unusedVariables false
set_option linter.unusedSimpArgs false
variable {P : Program} {w0 : World} {T N : Nat → Prop} {S : St} {g : Gh} {w w' : World} {a : Act} {o : Oper} {G : Env} {uid : Name} {en en' : List (Name × Entry)}

theorem MS.wrote (h : MS w0 T N en g w) {b : Nat} (hb : Free w0 T en g b) {us : List Value} (hw : Wrote w w' b us) : MS w0 T N en g w' ∧ Le (dom en) g w (dom en) g w' :=
  h.world (fun c hc => hw.rest c fun e => hb.imm (e ▸ hc)) (fun m f c hm ha hc => hw.rest c fun e => hb.top m f hm ha (e ▸ hc)) hw.os hw.out hw.tape (by rw [hw.size]; exact Nat.le_refl _)
    (fun c hc hT => hw.rest c fun e => by subst e; rcases hb.own with k | k; omega; exact hT k)
    (fun m f c hm ht hc => hw.rest c fun e => hb.wood m f hm ht (e ▸ hc))
theorem MS.rootNil (h : MS w0 T N en g w) {n : Name} (hn : find en n = none) (e : Cs) (m : Bool) :
    MS w0 T N ((n, .root e m []) :: en) (g.set n ⟨.slice none 0 0, e.len, none, []⟩) w ∧ Le (dom en) g w (dom ((n, .root e m []) :: en)) (g.set n ⟨.slice none 0 0, e.len, none, []⟩) w :=
  h.put (fun hd => absurd hn hd) rfl ⟨by simp [Gh.set], .inl ⟨by simp [Gh.set], rfl, by simp [Gh.set], by simp [Gh.set]⟩, by simp [Gh.set], fun _ => by simp [Gh.set]⟩ (fun _ b hb => by cases hb) (fun _ b hb => by simp at hb)
theorem row_behind {us vs news : List Value} {off : Nat} (h : (us.drop off).take vs.length = vs) (hl : off + vs.length ≤ us.length) : ((patch us (off + vs.length) news).drop off).take (vs ++ news).length = vs ++ news := by
  have hA : (us.take off).length = off := by rw [List.length_take]; omega
  have e : us.take (off + vs.length) = us.take off ++ vs := by rw [List.take_add, h]
  unfold patch
  rw [e, List.append_assoc, List.append_assoc, List.drop_append, List.drop_of_length_le (by omega), hA, Nat.sub_self, List.drop_zero, List.nil_append, ← List.append_assoc, List.take_left]
theorem zeroCells_length' (z : Array Value) (k : Nat) : (Builtin.zeroCells z k).size = k * z.size := by simp [Builtin.zeroCells]
theorem append_core (hM : MS w0 T N en g w) (hT : Tis P G.ti) {n : Name} (hn : find en n = none) {e : Cs} {xs ys : List e.den} {v1 v2 : Value} {tp : Option Nat} {Fd Fs : List Nat} (hd : rootRep w e xs v1 tp Fd) (htp : ∀ b, tp = some b → Free w0 T en g b)
    {t tx ty el : TypeId} {news : List Value} (hs : Src P e.len tx v2 ys.length news w) (hL : listRep e.len (Cs.Rep w e) ys news Fs) (hI : ∀ b ∈ Fd ++ Fs, g.I b) {m : Bool}
    (hm : m = true → (Fd ++ Fs).Nodup ∧ ∀ b ∈ Fd ++ Fs, (∀ k f, find en k = some f → f.deep = true → b ∉ g.nest k) ∧ (w0.heap.size ≤ b ∨ T b ∨ N b))
    (hu : P.underlying t = some (.slice el)) {j : TInfo} (hje : j.cs = e) {d : TypeInfo} {u : TypeDesc} {z : Value} (hf : TFacts P G.ti el j d u z) (hmax : xs.length + ys.length ≤ maxN) :
    ∃ v w' g', (Builtin.append_ #[t, tx] ty #[v1, v2]).run P w = .ok v w' ∧ MS w0 T N ((n, .root e m (xs ++ ys)) :: en) g' w' ∧ Le (dom en) g w (dom ((n, .root e m (xs ++ ys)) :: en)) g' w' ∧ v = g'.loc n := by
  subst hje
  have hmax' : xs.length + ys.length ≤ 4294967296 := hmax
  have hby := hf.bytes
  have hzl : z.cells.size = j.cs.len := (hf.zrep w).length
  have hpos := j.cs.len_pos
  rw [← hf.size] at hs
  have hnl := hs.newsLen
  rw [hf.size] at hnl
  -- a new row
  have grow : ∀ (base : Option Addr) (cap : Nat) (vs : List Value), v1 = .slice base xs.length cap → cap < xs.length + ys.length → vs.length = xs.length * j.cs.len → listRep j.cs.len (Cs.Rep w j.cs) xs vs Fd →
      (Builtin.firstCells d.size xs.length (.slice base xs.length cap)).run P w.drew = .ok vs.toArray w.drew →
      ∃ v w' g', (Builtin.append_ #[t, tx] ty #[v1, v2]).run P w = .ok v w' ∧ MS w0 T N ((n, .root j.cs m (xs ++ ys)) :: en) g' w' ∧ Le (dom en) g w (dom ((n, .root j.cs m (xs ++ ys)) :: en)) g' w' ∧ v = g'.loc n := by
    intro base cap vs hv hg hvl hLd hold
    have hrun := run_append_grow_src (P := P) w t tx ty el d z hu hf.info hf.zero base xs.length cap vs hold v2 ys.length news hs hg (by omega) (growslice_fits hg (by
      have : (xs.length + ys.length) * d.bytes ≤ 4294967296 * 8192 := Nat.mul_le_mul hmax' hby
      omega))
    have hge := grownCap_ge w (xs.length + ys.length) cap el
    generalize hcap : grownCap w (xs.length + ys.length) cap el = K at hrun hge
    obtain ⟨h1, l1⟩ := hM.drew
    obtain ⟨h2, l2⟩ := h1.alloc (.cells ((vs ++ news).toArray ++ Builtin.zeroCells z.cells (K - (xs.length + ys.length))) el)
    have hlist := (hLd.append hL).imp (R' := Cs.Rep (w.drew.alloc (.cells ((vs ++ news).toArray ++ Builtin.zeroCells z.cells (K - (xs.length + ys.length))) el)) j.cs) fun x v Gs _ hGs hr => Cs.Rep.of_same (fun c hc => (l1.trans l2).mem c (hI c (hGs c hc))) hr
    obtain ⟨h3, l3⟩ := h2.root (n := n) (e := j.cs) (m := m) (xs := xs ++ ys) (b := w.heap.size) (off := 0) (cap := K) (us := ((vs ++ news).toArray ++ Builtin.zeroCells z.cells (K - (xs.length + ys.length))).toList) (vs := vs ++ news) (F := Fd ++ Fs)
      hn h1.free (by simpa using hge) (alloc_own w.drew _ _) (by
        simp only [Array.toList_append, List.length_append, Array.length_toList, zeroCells_length', hvl, hnl, hzl]
        rw [Nat.zero_add, ← Nat.add_mul, ← Nat.add_mul]; exact Nat.mul_le_mul_right _ (by omega)) (by rw [List.drop_zero, Array.toList_append]; exact List.take_left) hlist hI (fun hmt => ⟨(hm hmt).1, (hm hmt).2⟩)
    refine ⟨_, _, _, by rw [hv]; exact hrun, h3, (l1.trans l2).trans l3, ?_⟩
    simp [Gh.set]
  rcases hd with ⟨rfl, rfl, rfl, rfl⟩ | ⟨b, off, cap, us, vs, rfl, rfl, h3, h4, h5, h6, h7⟩
  · by_cases h0 : ys.length = 0
    · obtain rfl := List.length_eq_zero_iff.1 h0
      obtain ⟨rfl, rfl⟩ := hL
      obtain ⟨h3, l3⟩ := hM.rootNil hn j.cs m
      refine ⟨.slice none 0 0, w, _, ?_, h3, l3, by simp [Gh.set]⟩
      have hlen := hs.len
      have hcells := hs.cells
      simp only [List.length_nil] at hlen hcells
      rcases hs.kind with ⟨e', hk⟩ | hk <;> simp [Builtin.append_, run_underlying hu, run_underlying hk, sizeOf, typeInfo, hf.info, hlen, hcells]
    · exact grow none 0 [] rfl (by simp; omega) (by simp) ⟨rfl, rfl⟩ (run_firstCells_none w.drew _ _ _ _)
  · have hvl := h7.length
    by_cases hroom : xs.length + ys.length ≤ cap
    · have hbig : (xs.length + ys.length) * j.cs.len ≤ cap * j.cs.len := Nat.mul_le_mul_right _ hroom
      rw [Nat.add_mul] at hbig
      obtain ⟨c, t', lo, hi, hc, rfl, hfz⟩ := h4
      have hin : ∀ q, q < news.length → off + xs.length * d.size + q < c.size := fun q hq => by
        rw [hf.size]; simp at h5; omega
      have hrun := run_append_room_src (P := P) w t tx ty el d hu hf.info b off xs.length cap v2 ys.length news hs hroom (fun q hq => by
          simp only [World.cell?, hc]; simpa using hin q hq) (fun q hq => by
          simp only [World.frozen?, hc]
          have := hfz.2 _ (hin q hq)
          simp only [Bool.and_eq_false_iff, decide_eq_false_iff_not]
          omega)
      have hw := setCells_wrote news (off + xs.length * d.size) w c.toList ⟨c, t', lo, hi, hc, rfl, hfz⟩ (by rw [hf.size]; omega)
      obtain ⟨h1, l1⟩ := hM.wrote (htp b rfl) hw
      have hlist := (h7.append hL).imp (R' := Cs.Rep (w.setCells b (off + xs.length * d.size) news) j.cs) fun x v Gs _ hGs hr => Cs.Rep.of_same (fun c hc => l1.mem c (hI c (hGs c hc))) hr
      have hrow := row_behind (news := news) h6 (by omega)
      rw [hvl, ← hf.size] at hrow
      obtain ⟨h2, l2⟩ := h1.root (n := n) (e := j.cs) (m := m) (xs := xs ++ ys) (b := b) (off := off) (cap := cap) (vs := vs ++ news) (F := Fd ++ Fs) hn (htp b rfl) (by simpa using hroom) hw.cells (by
          have := patch_length (us := c.toList) (vs := news) (o := off + xs.length * d.size) (by rw [hf.size]; omega)
          unfold patch at this
          rw [this]; exact h5) hrow hlist hI (fun hmt => ⟨(hm hmt).1, (hm hmt).2⟩)
      refine ⟨_, _, _, hrun, h2, l1.trans l2, by simp [Gh.set]⟩
    · exact grow _ cap vs rfl (by omega) hvl h7 (run_firstCells_some w.drew d.size xs.length ⟨b, off, none⟩ xs.length cap vs (by rw [hvl, hf.size]) (fun q v hq => by
        rw [addr_add]
        have := cell_row (h4.row_at h6) q v hq
        simpa using this))
theorem MS.goneFree (h : MS w0 T N en g w) {r : Name} {E : Entry} (hn : find en r = some E) (hE : E.alive = true) :
    MS w0 T N ((r, .gone) :: en) g w ∧ Le (dom en) g w (dom ((r, .gone) :: en)) g w ∧ ∀ b, g.top r = some b → Free w0 T ((r, .gone) :: en) g b := by
  obtain ⟨h1, l1⟩ := h.gone (n := r) (by unfold dom; rw [hn]; simp)
  refine ⟨h1, l1, fun b hb => ⟨h.mem.topI r E b hn hE hb, fun m f hm ha hmb => ?_, h.since.tops r E b hn hE hb, fun m f hm ht hmb => by
    rw [find_cons] at hm
    split at hm
    · cases hm; cases ht
    · exact (h.mem.wood m f b hm ht hmb).2.1 r E hn hE hb⟩⟩
  rw [find_cons] at hm
  split at hm
  · cases hm; cases ha
  · rename_i hne; exact hne (h.mem.apart r m E f b hn hm hE ha hb hmb)
theorem app_some {α : Type} {xs ys zs : List α} (h : app xs ys = some zs) : zs = xs ++ ys ∧ xs.length + ys.length ≤ maxN := by
  unfold app at h; split at h
  · cases h; exact ⟨rfl, by assumption⟩
  · cases h
theorem twoOf_some {e : Cs} {x y : Cell} {q : Name × Nat × Nat × Nat × Nat} (h : twoOf e x y = some q) : x = .win q.1 q.2.1 q.2.2.1 ∧ y = .win q.1 q.2.2.2.1 q.2.2.2.2 := by
  unfold twoOf at h
  split at h
  · rename_i r lo hi s lo2 hi2
    cases hk : (Nat.beq r s && e.hasSl) with
    | false => rw [hk] at h; cases h
    | true =>
      rw [hk] at h
      simp only [Bool.and_eq_true] at hk
      obtain rfl := Nat.eq_of_beq_eq_true hk.1
      cases h; exact ⟨rfl, rfl⟩
  · cases h
theorem win_mk {f : Cs} {ys : List f.den} {b off cap : Nat} {us vs : List Value} (h5 : ys.length ≤ cap) (h6 : ownBlock w b us) (h7 : off + cap * f.len ≤ us.length) (h8 : (us.drop off).take vs.length = vs) (hvs : vs.length = ys.length * f.len)
    {lo hi : Nat} (hlh : lo ≤ hi) (hhi : hi ≤ ys.length) {F4 : List Nat} (k4 : listRep f.len (Cs.Rep w f) ((ys.take hi).drop lo) ((vs.take (hi * f.len)).drop (lo * f.len)) F4) {v : Value}
    (hv : v = .slice (if cap = lo then some ⟨b, off, none⟩ else (some ⟨b, off, none⟩ : Option Addr).map (·.add (lo * f.len))) (hi - lo) (cap - lo)) : rootRep w f ((ys.take hi).drop lo) v (some b) F4 := by
  have hlen : ((ys.take hi).drop lo).length = hi - lo := by simp; omega
  refine .inr ⟨b, if cap = lo then off else off + lo * f.len, cap - lo, us, (vs.take (hi * f.len)).drop (lo * f.len), ?_, rfl, ?_, h6, ?_, ?_, k4⟩
  · rw [hlen, hv]; split
    · rfl
    · simp only [Option.map_some, addr_add]
  · omega
  · split
    · rename_i e; subst e; simp; omega
    · have : (cap - lo) * f.len + lo * f.len = cap * f.len := by rw [← Nat.add_mul]; congr 1; omega
      omega
  · have key := sub_row us vs off (lo * f.len) (hi * f.len) h8 (Nat.mul_le_mul_right _ hlh) (by rw [hvs]; exact Nat.mul_le_mul_right _ hhi)
    split
    · rename_i e; subst e
      obtain rfl : hi = cap := by omega
      have e0 : (vs.take (hi * f.len)).drop (hi * f.len) = [] := List.drop_of_length_le (by rw [List.length_take]; omega)
      rw [e0]; simp
    · exact key
theorem win_two (hm : Mem en g w) {r : Name} {f : Cs} {m : Bool} {ys : List f.den} (hn : find en r = some (.root f m ys)) {lo hi lo2 hi2 : Nat} {v1 v2 : Value}
    (hc1 : CellRep (dom en) g w (.win r lo hi) v1) (hc2 : CellRep (dom en) g w (.win r lo2 hi2) v2) (hle : hi ≤ lo2) :
    ∃ Fd Fs, rootRep w f ((ys.take hi).drop lo) v1 (g.top r) Fd ∧ rootRep w f ((ys.take hi2).drop lo2) v2 (g.top r) Fs ∧ ∀ b, (Fd ++ Fs).count b ≤ (g.nest r).count b := by
  obtain ⟨_, l1, a, len, cap, hloc, l2, hv1⟩ := hc1
  obtain ⟨_, l3, a', len', cap', hloc', l4, hv2⟩ := hc2
  rw [hloc] at hloc'; cases hloc'
  obtain ⟨he, h2, _⟩ := root_of hm hn
  rw [hloc] at h2
  rw [he] at hv1 hv2
  rcases h2 with ⟨h1, rfl, h3, h4⟩ | ⟨b, off, cap', us, vs, h1, h3, h5, h6, h7, h8, h9⟩
  · cases h1
    obtain rfl : hi2 = 0 := by omega
    obtain rfl : lo2 = 0 := by omega
    obtain rfl : hi = 0 := by omega
    obtain rfl : lo = 0 := by omega
    exact ⟨[], [], .inl ⟨by simpa using hv1, by simp, h3, rfl⟩, .inl ⟨by simpa using hv2, by simp, h3, rfl⟩, by simp⟩
  · cases h1
    have hvs := h9.length
    obtain ⟨F1, F2, e1, k1, k2⟩ := h9.split hi2
    obtain ⟨F3, F4, e3, k3, k4⟩ := k1.split lo2
    obtain ⟨F5, F6, e5, k5, k6⟩ := k3.split hi
    obtain ⟨F7, F8, e7, k7, k8⟩ := k5.split lo
    rw [List.take_take, List.take_take, List.take_take, List.take_take, show min (min hi lo2) hi2 = hi by omega, show min (min (hi * f.len) (lo2 * f.len)) (hi2 * f.len) = hi * f.len by
      have := Nat.mul_le_mul_right f.len hle
      have := Nat.mul_le_mul_right f.len l3
      omega] at k8
    refine ⟨F8, F4, ?_, ?_, fun c => by rw [e1, e3, e5, e7]; simp only [count_app]; omega⟩
    · rw [h3]; exact win_mk h5 h6 h7 h8 hvs l1 (by omega) k8 hv1
    · rw [h3]; exact win_mk h5 h6 h7 h8 hvs l3 l4 k4 hv2
theorem op_append (h : Inv w0 T N S g w a) (hT : Tis P G.ti) {t t' : TypeId} {x y : Operand} (ho : o.op = .call { callee := .builtin .append, args := #[x, y], argTypes := #[t, t'] }) {e : Eff} {L : List Name}
    (hr : (eff G uid S.eval (.call { callee := .builtin .append, args := #[x, y], argTypes := #[t, t'] })).Runs (find S.en) e L) : Fine P w0 T N S g w a o e := by
  replace hr := ti_some hr
  obtain ⟨i, hi, hr⟩ := hr
  replace hr := slOf_some hr
  obtain ⟨f, ha, hc, hr⟩ := hr
  replace hr := ti_some hr
  obtain ⟨i', hi', hr⟩ := hr
  replace hr := slOf_some hr
  obtain ⟨f', ha', hc', hr⟩ := hr
  replace hr := ti_some hr
  obtain ⟨j, hj, hr⟩ := hr
  obtain ⟨hu, j', d, u, z, hj', hjc, hf⟩ := sl_facts hT hi ha hc
  rw [hj] at hj'; cases hj'
  obtain ⟨hu', _⟩ := sl_facts hT hi' ha' hc'
  have hx := eval_rep h x
  have hy := eval_rep h y
  unfold effAppend at hr
  split at hr
  · rename_i cx cy e1 e2
    rw [e1] at hx; rw [e2] at hy
    split at hr
    · rename_i q hq
      obtain ⟨rfl, rfl⟩ := twoOf_some hq
      unfold effJoin at hr
      obtain ⟨L', _, hr⟩ := hr
      cases hrn : find S.en q.1 with
      | none => rw [hrn] at hr; exact hr.elim
      | some E =>
        rw [hrn] at hr
        cases E <;> try exact hr.elim
        rename_i f m xs
        simp only at hr
        split at hr
        · rename_i hf0 _; subst hf0
          obtain ⟨zs, hz, hr⟩ := hr
          unfold cutTwo at hz
          split at hz
          · rename_i hle2
            obtain ⟨rfl, hmax⟩ := app_some hz
            obtain ⟨rfl, _, hn⟩ := made_runs hr
            have hn := hn _ (List.mem_singleton.2 rfl)
            obtain ⟨Fd, Fs, k1, k2, k3⟩ := win_two h.mem hrn (rep_cell hx) (rep_cell hy) hle2
            obtain ⟨news, hs, hL⟩ := src_root hT hu' k2
            obtain ⟨_, _, hnI, hnd⟩ := root_of h.mem hrn
            obtain ⟨hM1, hle1, hfree⟩ := h.ms.goneFree hrn rfl
            have hur : uid ≠ q.1 := fun e => by rw [e, hrn] at hn; cases hn
            have hI : ∀ b ∈ Fd ++ Fs, g.I b := fun b hb => hnI b (mem_of_count hb k3)
            obtain ⟨v, w', g', hrun, hM2, hle2, hv⟩ := append_core (ty := o.type) (m := m) (n := uid) hM1 hT ((find_other (Ne.symm hur) _ _).trans hn) k1 hfree hs hL hI (fun hmt => by
              subst hmt
              refine ⟨once_iff.1 (once_of_le (once_iff.2 (hnd rfl)) k3), fun b hb => ?_⟩
              have hcn := mem_of_count hb k3
              refine ⟨fun k f' hk hfd => ?_, h.since.nests q.1 _ b hrn rfl hcn⟩
              rw [find_cons] at hk
              split at hk
              · cases hk; cases hfd
              · rename_i hne; exact h.mem.nests q.1 k _ _ hrn hk rfl hfd hne b hcn) hu rfl hf hmax
            refine ⟨v, w', g', .inl ?_, hM2, hle1.trans hle2, ⟨dom_cons.2 (.inl rfl), hv⟩⟩
            simp only [execOp, ho, resolve, invoke, builtin, Sem.run_bind, Sem.run_pure, Result.andThen, List.map_toArray, List.map_cons, List.map_nil, hrun]
          · cases hz
        · exact hr.elim
    obtain ⟨A, L1, L2, _, hA, hr⟩ := Rd.runs_bind hr
    obtain ⟨B, L3, L4, _, hB, hr⟩ := Rd.runs_bind hr
    obtain ⟨_, L5, L6, _, hd, hr⟩ := Rd.runs_bind hr
    have hd := (Rd.runs_need hd).1
    cases hm : joinM A.2.1 B.2.1 with
    | none => rw [hm] at hr; exact hr.elim
    | some m =>
      rw [hm] at hr
      obtain ⟨zs, hz, hr⟩ := hr
      obtain ⟨rfl, hmax⟩ := app_some hz
      obtain ⟨rfl, _, hn⟩ := made_runs hr
      have hn := hn _ (List.mem_singleton.2 rfl)
      obtain ⟨news, Fs, hs, hL, hok, hsI, hsT, hsN⟩ := src_sound h.mem hT hu' (rep_cell hy) hB
      obtain ⟨hdA, hdB, hdAB⟩ := distinct_append hd
      obtain ⟨g1, hM, hle, f1, f2, f3, f4, fI⟩ := h.ms.useAll hok hdB
      have hnB : uid ∉ B.2.2.map (·.1) := fun hmm => by
        obtain ⟨p, hp, rfl⟩ := List.mem_map.1 hmm
        exact usedOk_dom hok hp hn
      have hIs : ∀ b ∈ Fs, g1.I b := fun b hb => (fI b).2 (hsI b hb)
      have fin : ∀ (en1 : List (Name × Entry)) (v1 v2 : Value) (tp : Option Nat) (Fd : List Nat), a.eval x = v1 → a.eval y = v2 → MS w0 T N en1 g1 w → Le (dom S.en) g w (dom en1) g1 w → find en1 uid = none → rootRep w j.cs A.1 v1 tp Fd → (∀ b, tp = some b → Free w0 T en1 g1 b) →
          Src P j.cs.len t' v2 B.1.length news w → (∀ b ∈ Fd ++ Fs, g1.I b) → (m = true → (Fd ++ Fs).Nodup ∧ ∀ b ∈ Fd ++ Fs, (∀ k f, find en1 k = some f → f.deep = true → b ∉ g1.nest k) ∧ (w0.heap.size ≤ b ∨ T b ∨ N b)) →
          A.2.2 ++ B.2.2 ++ S.en = en1 → Fine P w0 T N S g w a o ⟨.cell (.own uid), [(uid, .root j.cs m (A.1 ++ B.1))] ++ (A.2.2 ++ B.2.2)⟩ := by
        intro en1 v1 v2 tp Fd hv1 hv2 hM1 hle1 hn1 hrt htp hs hI hmm hen
        obtain ⟨v, w', g', hrun, hM2, hle2, hv⟩ := append_core (ty := o.type) hM1 hT hn1 hrt htp hs hL hI hmm hu rfl hf hmax
        refine ⟨v, w', g', .inl ?_, ?_, ?_, ?_⟩
        · simp only [execOp, ho, resolve, invoke, builtin, Sem.run_bind, Sem.run_pure, Result.andThen, List.map_toArray, List.map_cons, List.map_nil, hv1, hv2, hrun]
        · rw [← hen] at hM2; simpa using hM2
        · rw [← hen] at hle2 hle1; simpa using hle1.trans hle2
        · rw [← hen] at hM2; exact ⟨dom_cons.2 (.inl rfl), hv⟩
      rcases dst_sound h.mem (rep_cell hx) hA with ⟨hv1, rfl⟩ | ⟨xs, r, mA, Fd, rfl, hD⟩
      · refine fin (B.2.2 ++ S.en) _ _ none [] hv1 rfl hM hle ((find_skip hnB).trans hn) (.inl ⟨rfl, rfl, rfl, rfl⟩) (fun b hb => by cases hb) hs (by simpa using hIs) (fun hmt => ?_) (by simp)
        subst hmt
        simp only [List.nil_append]
        have key : usedOk S.en true true B.2.2 ∧ ∀ b, Fs.count b ≤ ((B.2.2.map (·.1)).flatMap (foot g)).count b := by
          cases hmB : B.2.1 with
          | none =>
            obtain ⟨e0, e3⟩ := hsN hmB
            rw [e0, e3]; exact ⟨by simp [usedOk], by simp⟩
          | some mB =>
            rw [hmB] at hm
            obtain rfl : mB = true := by simpa [joinM] using hm
            exact hsT hmB
        obtain ⟨hok', hcnt⟩ := key
        refine ⟨once_iff.1 (once_of_le (foots_once h.mem hok' hdB).1 hcnt), fun b hb => ?_⟩
        obtain ⟨j4, j5⟩ := foots_free h.ms hok' (mem_of_count hb hcnt)
        refine ⟨fun k f' hk hfd => ?_, j5⟩
        rw [f4]
        by_cases hin : k ∈ B.2.2.map (·.1)
        · rw [(used_names hok hdB hin hk).1] at hfd; cases hfd
        · rw [find_skip hin] at hk; exact j4 k f' hk hfd hin
      · obtain ⟨⟨ys0, hrn⟩, hrt, hcd⟩ := hD
        have hrB : r ∉ B.2.2.map (·.1) := hdAB r (by simp)
        have hrn1 : find (B.2.2 ++ S.en) r = some (.root j.cs mA ys0) := (find_skip hrB).trans hrn
        obtain ⟨hM1, hle1, hfree⟩ := hM.goneFree hrn1 rfl
        have hur : uid ≠ r := fun e => by rw [e, hrn] at hn; cases hn
        obtain ⟨_, _, hnI, hnd⟩ := root_of h.mem hrn
        refine fin ((r, .gone) :: (B.2.2 ++ S.en)) _ _ (g.top r) Fd rfl rfl hM1 (hle.trans hle1) ((find_other (Ne.symm hur) _ _).trans ((find_skip hnB).trans hn)) hrt (fun b hb => hfree b (by rw [f3]; exact hb)) hs (fun b hb => ?_) (fun hmt => ?_) (by simp)
        · rcases List.mem_append.1 hb with hb | hb
          · exact (fI b).2 (.inl (hnI b (mem_of_count hb hcd)))
          · exact hIs b hb
        · subst hmt
          have key : mA = true ∧ usedOk S.en true true B.2.2 ∧ ∀ b, Fs.count b ≤ ((B.2.2.map (·.1)).flatMap (foot g)).count b := by
            cases hmB : B.2.1 with
            | none =>
              obtain ⟨e0, e3⟩ := hsN hmB
              rw [hmB] at hm
              rw [e0, e3]; exact ⟨by simpa [joinM] using hm, by simp [usedOk], by simp⟩
            | some mB =>
              rw [hmB] at hm
              have : mA = true ∧ mB = true := by cases mA <;> cases mB <;> simp [joinM] at hm ⊢
              obtain ⟨rfl, rfl⟩ := this
              exact ⟨rfl, hsT hmB⟩
          obtain ⟨rfl, hok', hcnt⟩ := key
          obtain ⟨j1, j2⟩ := foots_once h.mem hok' hdB
          have hcnt2 : ∀ b, (Fd ++ Fs).count b ≤ (g.nest r ++ (B.2.2.map (·.1)).flatMap (foot g)).count b := fun b => by
            have := hcd b; have := hcnt b; simp only [count_app]; omega
          have honce : Once (g.nest r ++ (B.2.2.map (·.1)).flatMap (foot g)) := by
            rw [once_iff, List.nodup_append]
            refine ⟨hnd rfl, once_iff.1 j1, fun c hc d hd' hcd => ?_⟩
            subst hcd
            exact j2 r _ hrn rfl hrB c hd' (by unfold foot; exact List.mem_append_right _ hc)
          refine ⟨once_iff.1 (once_of_le honce hcnt2), fun b hb => ?_⟩
          rw [f4]
          rcases List.mem_append.1 (mem_of_count hb hcnt2) with hcn | hcf
          · refine ⟨fun k f' hk hfd => ?_, h.since.nests r _ b hrn rfl hcn⟩
            rw [find_cons] at hk
            split at hk
            · cases hk; cases hfd
            · rename_i hne
              by_cases hin : k ∈ B.2.2.map (·.1)
              · rw [(used_names hok hdB hin hk).1] at hfd; cases hfd
              · rw [find_skip hin] at hk; exact h.mem.nests r k _ _ hrn hk rfl hfd hne b hcn
          · obtain ⟨j4, j5⟩ := foots_free h.ms hok' hcf
            refine ⟨fun k f' hk hfd => ?_, j5⟩
            rw [find_cons] at hk
            split at hk
            · cases hk; cases hfd
            · by_cases hin : k ∈ B.2.2.map (·.1)
              · rw [(used_names hok hdB hin hk).1] at hfd; cases hfd
              · rw [find_skip hin] at hk; exact j4 k f' hk hfd hin
  · exact hr.elim
end Go.V
namespace Go.V
set_option linter.unusedVariables false
set_option linter.unusedSimpArgs false
variable {P : Program} {w0 : World} {T N : Nat → Prop} {S : St} {g : Gh} {w w' : World} {a : Act} {o : Oper} {G : Env} {uid : Name} {en en' : List (Name × Entry)}

theorem run_mark {d e : TypeId} (hu : P.underlying d = some (.slice e)) (he : P.underlying e = some (.int .u8)) {b off n cap : Nat} {c : Array Value} {t : TypeId} {fz : Nat × Nat} (hc : w.heap[b]? = some (.cells c t fz)) :
    (convert d d (.slice (some ⟨b, off, none⟩) n cap)).run P w = .ok (.slice (some ⟨b, off, none⟩) n cap) (w.freeze ⟨b, c.size, none⟩ 1) := by
  have hsh : w.shape? b = some (t, c.size) := by unfold World.shape?; rw [hc]
  simp [convert, run_underlying hu, run_underlying he, markStringish, hsh]
theorem freeze_at {b k : Nat} {c : Array Value} {t : TypeId} {lo hi : Nat} (hc : w.heap[b]? = some (.cells c t (lo, hi))) :
    (w.freeze ⟨b, k, none⟩ 1).heap[b]? = some (.cells c t (if lo == hi then (k, k + 1) else (min lo k, max hi (k + 1)))) := by
  unfold World.freeze
  rw [if_neg (by decide)]
  simp [Array.getElem?_modify, hc]
theorem freeze_other {b k b' : Nat} (h : b' ≠ b) : (w.freeze ⟨b, k, none⟩ 1).heap[b']? = w.heap[b']? := by
  unfold World.freeze
  rw [if_neg (by decide)]
  simp [Array.getElem?_modify, Ne.symm h]
theorem freeze_size {b k : Nat} : (w.freeze ⟨b, k, none⟩ 1).heap.size = w.heap.size := by
  unfold World.freeze
  rw [if_neg (by decide)]
  simp
theorem clear_mark {n lo hi : Nat} (h : Clear n lo hi) : ∃ l k, (if lo == hi then (n, n + 1) else (min lo n, max hi (n + 1))) = (l, k) ∧ Clear n l k := by
  obtain ⟨h1, h2⟩ := h
  by_cases he : lo = hi
  · subst he
    refine ⟨n, n + 1, by simp, by omega, fun o ho hk => by omega⟩
  · have hlo : n ≤ lo := by
      rcases Nat.lt_or_ge lo n with hl | hl
      · exact absurd ⟨Nat.le_refl lo, by omega⟩ (h2 lo hl)
      · exact hl
    refine ⟨min lo n, max hi (n + 1), by simp [he], by omega, fun o ho hk => ?_⟩
    have := hk.1
    rw [Nat.min_eq_right hlo] at this
    omega
theorem op_convert (h : Inv w0 T N S g w a) (hT : Tis P G.ti) {s d : TypeId} {x : Operand} (ho : o.op = .convert s d x) {e : Eff} {L : List Name} (hr : (eff G uid S.eval (.convert s d x)).Runs (find S.en) e L) : Fine P w0 T N S g w a o e := by
  replace hr := ti_some hr
  obtain ⟨j, hj, hr⟩ := hr
  replace hr := ti_some hr
  obtain ⟨i, hi, hr⟩ := hr
  cases hown : ownSl i (S.eval x) with
  | none => rw [hown] at hr; exact op_convert0 h hT ho hj hi hr
  | some r =>
    rw [hown] at hr
    cases hk : (Nat.beq s d && isByte G i.elem) with
    | false => rw [hk] at hr; exact hr.elim
    | true =>
    rw [hk] at hr
    simp only [Bool.and_eq_true] at hk
    obtain rfl := Nat.eq_of_beq_eq_true hk.1
    have hx := eval_rep h x
    unfold ownSl at hown
    split at hown
    · rename_i r' hev
      split at hown
      · rename_i ha hc
        cases hown
        rw [hev] at hx
        obtain ⟨hdr, hxv⟩ := hx
        obtain ⟨L', _, hr⟩ := hr
        dsimp only at hr
        split at hr
        · rename_i f m xs hn
          split at hr
          · rename_i hsame x0 l _
            obtain ⟨hsame⟩ := hsame
            subst hsame
            obtain ⟨rfl, _, hnew⟩ := made_runs hr
            have hnu : find S.en uid = none := hnew _ (List.mem_singleton.2 rfl)
            obtain ⟨hu, _⟩ := sl_facts hT hi ha hc
            have he := byte_facts hT hk.2
            obtain ⟨hes, hrt, hnI, hnd⟩ := root_of h.mem hn
            rcases hrt with ⟨_, h2, _⟩ | ⟨b, off, cap, us, vs, e1, e2, e3, ⟨c, t, lo, hi', hc', rfl, hcl⟩, e5, e6, e7⟩
            · cases h2
            have hF : g.nest r = [] := listRep_flat (by rfl) e7
            obtain ⟨hM, hle, hfree⟩ := h.ms.goneFree hn rfl
            have hfr := hfree b e2
            obtain ⟨lo2, hi2, hz, hcl2⟩ := clear_mark hcl
            have hat := freeze_at (k := c.size) hc'
            rw [hz] at hat
            have hne : ∀ b', b' ≠ b → (w.freeze ⟨b, c.size, none⟩ 1).heap[b']? = w.heap[b']? := fun b' hb => freeze_other hb
            have hown2 : ownBlock (w.freeze ⟨b, c.size, none⟩ 1) b c.toList := ⟨c, t, lo2, hi2, hat, rfl, hcl2⟩
            obtain ⟨hM2, hle2⟩ := hM.world (w' := w.freeze ⟨b, c.size, none⟩ 1) (fun b' hb => hne b' fun e => hfr.imm (e ▸ hb)) (fun m' f' b' hm ha' ht => hne b' fun e => hfr.top m' f' hm ha' (e ▸ ht)) (by unfold World.freeze; rfl) (by unfold World.freeze; rfl) (by unfold World.freeze; rfl) (by rw [freeze_size]; omega)
              (fun b' hb hT' => hne b' fun e => by
                subst e
                rcases hfr.own with hk | hk
                · omega
                · exact hT' hk)
              (fun m' f' b' hm ht hb => hne b' fun e => hfr.wood m' f' hm ht (e ▸ hb))
            have hur : uid ≠ r := fun e => by rw [e, hn] at hnu; cases hnu
            rw [hF] at e7
            obtain ⟨hM3, hle3⟩ := hM2.root (n := uid) (e := .one (.int .u8)) (m := m) (xs := x0 :: l) (b := b) (off := off) (cap := cap) (us := c.toList) (vs := vs) (F := []) ((find_other (Ne.symm hur) _ _).trans hnu) hfr
              e3 hown2 e5 e6 (e7.imp fun y v G' _ hG hr' => Cs.Rep.of_same (fun q hq => by have := hG q hq; simp at this) hr') (by simp) (by simp)
            refine ⟨.slice (some ⟨b, off, none⟩) (x0 :: l).length cap, w.freeze ⟨b, c.size, none⟩ 1, _, .inl ?_, hM3, (hle.trans hle2).trans hle3, ⟨dom_cons.2 (.inl rfl), by simp [Gh.set]⟩⟩
            have hxe : a.eval x = .slice (some ⟨b, off, none⟩) (x0 :: l).length cap := hxv.trans e1
            simp only [execOp, ho, hxe, Sem.run_bind, run_mark hu he hc', Result.andThen, Sem.run_pure]
          · exact hr.elim
        · exact hr.elim
      · cases hown
    · cases hown
end Go.V
namespace Go.V
set_option linter.unusedVariables false
set_option linter.unusedSimpArgs false
variable {P : Program} {w0 : World} {T N : Nat → Prop} {S : St} {g : Gh} {w w' : World} {a : Act} {o : Oper} {G : Env} {uid : Name} {en en' : List (Name × Entry)}

def Cs.parts : Cs → List CT | .one c => [c] | .cons c r => c :: r.parts
def flatCode : CT → Option Nat | .int k => some (ikNat k) | .bool => some 8 | .str => some 9 | _ => none
def eqFs (P : Program) (rc : Nat → Option (List CT)) : Nat → List Field → Option (List CT)
  | _, [] => some []
  | off, f :: fs => cond (f.name != "_" && Nat.beq f.offset off)
    (match rc f.type with
    | some l => cond (match P.info? f.type with | some d => Nat.beq d.size l.length && Nat.blt 0 l.length | none => false) (match eqFs P rc (off + l.length) fs with | some m => some (l ++ m) | none => none) none
    | none => none) none
def eqT (P : Program) : Nat → Nat → Option (List CT)
  | 0, _ => none
  | n + 1, t => match P.underlying t with
    | some (.int k) => some [.int k]
    | some .bool => some [.bool]
    | some .string => some [.str]
    | some (.struct fs) => cond (P.stoodInHeld t) none (eqFs P (eqT P n) 0 fs.toList)
    | _ => none
def sameParts : List CT → List CT → Bool
  | [], [] => true
  | c :: l, d :: m => (match flatCode c, flatCode d with | some i, some j => Nat.beq i j | _, _ => false) && sameParts l m
  | _, _ => false
def eqOk (P : Program) (p : Nat × TInfo) : Bool :=
  !p.2.agg || p.2.cs.hasSl || p.2.cs.parts.any (fun c => match c with | .err => true | _ => false) ||
    (match eqT P 6 p.1 with | some l => sameParts l p.2.cs.parts | none => false) && !(P.eqGuardType P.depth p.1)
def Eqs (P : Program) (ti : List (Nat × TInfo)) : Prop := ∀ t i, find ti t = some i → eqOk P (t, i) = true
theorem Eqs.of_all {P : Program} {ti : List (Nat × TInfo)} (h : ti.all (eqOk P) = true) : Eqs P ti := fun t i hi => List.all_eq_true.1 h _ (find_mem hi)

def eqL : List CT → List Cell → List Cell → Option Bool
  | [], [], [] => some true
  | c :: l, x :: xs, y :: ys => match cellEq c x y, eqL l xs ys with | some a, some b => some (a && b) | _, _ => none
  | _, _, _ => none
theorem eqL_of : ∀ {e : Cs} {xs ys : List Cell} {r : Bool}, cellsEq e xs ys = some r → eqL e.parts xs ys = some r
  | .one c, [x], [y], r, h => by
    simp only [cellsEq] at h
    simp [Cs.parts, eqL, h]
  | .cons c e, x :: xs, y :: ys, r, h => by
    simp only [cellsEq] at h
    cases h1 : cellEq c x y with
    | none => rw [h1] at h; simp at h
    | some p =>
      cases h2 : cellsEq e xs ys with
      | none => rw [h1, h2] at h; simp at h
      | some q => rw [h1, h2] at h; simp [Cs.parts, eqL, h1, eqL_of h2]; simpa using h
  | .one c, [], _, r, h => by simp [cellsEq] at h
  | .one c, [_], [], r, h => by simp [cellsEq] at h
  | .one c, [_], _ :: _ :: _, r, h => by simp [cellsEq] at h
  | .one c, _ :: _ :: _, _, r, h => by simp [cellsEq] at h
  | .cons c e, [], _, r, h => by simp [cellsEq] at h
  | .cons c e, _ :: _, [], r, h => by simp [cellsEq] at h
theorem code_inj {c d : CT} {i : Nat} (h : flatCode c = some i) (k : flatCode d = some i) : c = d := by
  have ik : ∀ k, ikNat k < 8 := by intro k; cases k <;> simp [ikNat]
  cases c <;> cases d <;> simp [flatCode] at h k
  case int.int j j' => rw [← k] at h; rw [ikNat_inj h]
  case int.bool j => have := ik j; omega
  case int.str j => have := ik j; omega
  case bool.int j => have := ik j; omega
  case str.int j => have := ik j; omega
  case bool.bool => rfl
  case str.str => rfl
  all_goals omega
theorem sameParts_eq : ∀ {l m : List CT}, sameParts l m = true → l = m
  | [], [], _ => rfl
  | c :: l, d :: m, h => by
    simp only [sameParts, Bool.and_eq_true] at h
    obtain ⟨h1, h2⟩ := h
    cases hc : flatCode c with
    | none => rw [hc] at h1; simp at h1
    | some i =>
      cases hd : flatCode d with
      | none => rw [hc, hd] at h1; simp at h1
      | some j =>
        rw [hc, hd] at h1
        obtain rfl := Nat.eq_of_beq_eq_true h1
        rw [code_inj hc hd, sameParts_eq h2]
  | [], _ :: _, h => by simp [sameParts] at h
  | _ :: _, [], h => by simp [sameParts] at h
theorem eqL_split : ∀ {l m : List CT} {xs ys : List Cell} {r : Bool}, eqL (l ++ m) xs ys = some r → ∃ r1 r2, eqL l (xs.take l.length) (ys.take l.length) = some r1 ∧ eqL m (xs.drop l.length) (ys.drop l.length) = some r2 ∧ r = (r1 && r2)
  | [], m, xs, ys, r, h => ⟨true, r, by simp [eqL], by simpa using h, by simp⟩
  | c :: l, m, x :: xs, y :: ys, r, h => by
    simp only [List.cons_append, eqL] at h
    cases h1 : cellEq c x y with
    | none => rw [h1] at h; simp at h
    | some p =>
      cases h2 : eqL (l ++ m) xs ys with
      | none => rw [h1, h2] at h; simp at h
      | some q =>
        rw [h1, h2] at h
        obtain ⟨r1, r2, k1, k2, rfl⟩ := eqL_split h2
        refine ⟨p && r1, r2, by simp [eqL, h1, k1], by simpa using k2, ?_⟩
        simp at h; rw [← h, Bool.and_assoc]
  | c :: l, m, [], ys, r, h => by simp [eqL] at h
  | c :: l, m, _ :: _, [], r, h => by simp [eqL] at h
theorem eqL_length : ∀ {l : List CT} {xs ys : List Cell} {r : Bool}, eqL l xs ys = some r → xs.length = l.length ∧ ys.length = l.length
  | [], [], [], _, _ => ⟨rfl, rfl⟩
  | c :: l, x :: xs, y :: ys, r, h => by
    simp only [eqL] at h
    cases h1 : cellEq c x y with
    | none => rw [h1] at h; simp at h
    | some p =>
      cases h2 : eqL l xs ys with
      | none => rw [h1, h2] at h; simp at h
      | some q => obtain ⟨k1, k2⟩ := eqL_length h2; simp [k1, k2]
  | [], _ :: _, _, _, h => by simp [eqL] at h
  | [], [], _ :: _, _, h => by simp [eqL] at h
  | _ :: _, [], _, _, h => by simp [eqL] at h
  | _ :: _, _ :: _, [], _, h => by simp [eqL] at h
def valOf (P : Program) (t : Nat) (vs : List Value) : Value := match P.underlying t with | some (.struct _) => .agg vs.toArray | _ => vs.headD undef
theorem run_part {t : Nat} {l : List CT} {n : Nat} (hl : eqT P n t = some l) {d : TypeInfo} (hd : P.info? t = some d) (hs : d.size = l.length) {X : List Value} {off : Nat} (ho : off + l.length ≤ X.length) :
    (part t X.toArray off).run P w = .ok (valOf P t ((X.drop off).take l.length)) w := by
  cases n with
  | zero => simp [eqT] at hl
  | succ n =>
    simp only [eqT] at hl
    unfold part valOf Go.isAgg
    cases hu : P.underlying t with
    | none => rw [hu] at hl; simp at hl
    | some u =>
      rw [hu] at hl
      simp only [Sem.run_bind, run_underlying hu, Result.andThen]
      have scal : l.length = 1 → ((match X.toArray[off]? with | some v => pure v | none => stuck "part: no such cell" : Sem Value)).run P w = .ok (((X.drop off).take l.length).headD undef) w := by
        intro h1
        rw [h1] at ho ⊢
        have : off < X.length := by omega
        simp [List.getElem?_eq_getElem this, List.head?_take, List.head?_drop, List.headD_eq_head?_getD]
      cases u <;> try (simp at hl; done)
      case int k => simp at hl; subst hl; exact scal rfl
      case bool => simp at hl; subst hl; exact scal rfl
      case string => simp at hl; subst hl; exact scal rfl
      case struct fs =>
        simp only [Sem.run_pure, if_true, Sem.run_bind, Result.andThen, sizeOf, typeInfo, hd, run_program]
        simp [hs, List.extract_eq_take_drop, hd]
theorem cellEq_run {c : CT} {x y : Cell} {vx vy : Value} {D : Name → Prop} {r : Bool} (h : cellEq c x y = some r) (hx : CellRep D g w x vx) (hy : CellRep D g w y vy) {n : Nat} {t : Nat} {u : TypeDesc} (hu : P.underlying t = some u)
    (hc : (∃ k, c = .int k ∧ u = .int k) ∨ (c = .bool ∧ u = .bool) ∨ (c = .str ∧ u = .string)) : (Op.equalIn (n + 1) t vx vy).run P w = .ok r w := by
  rcases hc with ⟨k, rfl, rfl⟩ | ⟨rfl, rfl⟩ | ⟨rfl, rfl⟩
  · cases x <;> try (simp [cellEq] at h; done)
    cases y <;> try (simp [cellEq] at h; done)
    rename_i i p j q
    simp only [cellEq] at h
    cases hk : (Nat.beq (ikNat i) (ikNat k) && Nat.beq (ikNat j) (ikNat k)) with
    | false => rw [hk] at h; simp at h
    | true =>
      rw [hk] at h
      simp only [Bool.and_eq_true] at hk
      obtain rfl := ikNat_inj (Nat.eq_of_beq_eq_true hk.1)
      obtain rfl := ikNat_inj (Nat.eq_of_beq_eq_true hk.2)
      obtain rfl : vx = .int _ p := hx
      obtain rfl : vy = .int _ q := hy
      simp at h; subst h
      simp [Op.equalIn, run_underlying hu]
  · cases x <;> try (simp [cellEq] at h; done)
    cases y <;> try (simp [cellEq] at h; done)
    rename_i p q
    obtain rfl : vx = .bool p := hx
    obtain rfl : vy = .bool q := hy
    simp [cellEq] at h; subst h
    simp [Op.equalIn, run_underlying hu]
  · cases x <;> try (simp [cellEq] at h; done)
    cases y <;> try (simp [cellEq] at h; done)
    rename_i p q
    obtain rfl : vx = .string ⟨p.toArray⟩ := hx
    obtain rfl : vy = .string ⟨q.toArray⟩ := hy
    simp [cellEq] at h; subst h
    simp [Op.equalIn, run_underlying hu, beq_toListBytes]
theorem eqFs_run {D : Name → Prop} (n d : Nat) (ih : ∀ {t : Nat} {l : List CT} {xs ys : List Cell} {vx vy : List Value} {r : Bool}, eqT P n t = some l → eqL l xs ys = some r → All2 (CellRep D g w) xs vx → All2 (CellRep D g w) ys vy →
      (Op.equalIn (d + n) t (valOf P t vx) (valOf P t vy)).run P w = .ok r w) : ∀ (off : Nat) (fs : List Field) {l : List CT} {xs ys : List Cell} {X Y : List Value} {r : Bool}, eqFs P (eqT P n) off fs = some l → eqL l xs ys = some r → All2 (CellRep D g w) xs (X.drop off) → All2 (CellRep D g w) ys (Y.drop off) →
    (Op.eqFields (d + n) X.toArray Y.toArray fs).run P w = .ok r w
  | off, [], l, xs, ys, X, Y, r, h, he, hx, hy => by
    simp [eqFs] at h; subst h
    match xs, ys, he with
    | [], [], he => simp [eqL] at he; subst he; simp [Op.eqFields]
    | _ :: _, _, he => simp [eqL] at he
    | [], _ :: _, he => simp [eqL] at he
  | off, f :: fs, l, xs, ys, X, Y, r, h, he, hx, hy => by
    simp only [eqFs] at h
    cases h1 : (f.name != "_" && Nat.beq f.offset off) with
    | false => rw [h1] at h; simp at h
    | true =>
      rw [h1] at h
      simp only [Bool.and_eq_true, cond_true] at h1 h
      obtain ⟨hname, hoff⟩ := h1
      obtain rfl := Nat.eq_of_beq_eq_true hoff
      cases h2 : eqT P n f.type with
      | none => rw [h2] at h; simp at h
      | some l1 =>
        rw [h2] at h
        simp only at h
        cases hd : P.info? f.type with
        | none => rw [hd] at h; simp at h
        | some di =>
          rw [hd] at h
          simp only at h
          cases h3 : (Nat.beq di.size l1.length && Nat.blt 0 l1.length) with
          | false => rw [h3] at h; simp at h
          | true =>
            rw [h3] at h
            simp only [cond_true, Bool.and_eq_true] at h h3
            cases h4 : eqFs P (eqT P n) (f.offset + l1.length) fs with
            | none => rw [h4] at h; simp at h
            | some m =>
              rw [h4] at h
              simp at h; subst h
              obtain ⟨r1, r2, k1, k2, rfl⟩ := eqL_split he
              obtain ⟨e1, e2⟩ := eqL_length he
              rw [List.length_append] at e1 e2
              have lx := hx.length
              have ly := hy.length
              rw [List.length_drop] at lx ly
              have hsz := Nat.eq_of_beq_eq_true h3.1
              have hpos : 0 < l1.length := ble_le h3.2
              have px := run_part (w := w) h2 hd hsz (X := X) (off := f.offset) (by omega)
              have py := run_part (w := w) h2 hd hsz (X := Y) (off := f.offset) (by omega)
              have q1 := ih h2 k1 (hx.take l1.length) (hy.take l1.length)
              have q2 := eqFs_run n d ih (f.offset + l1.length) fs h4 k2 (by rw [← List.drop_drop]; exact hx.drop l1.length) (by rw [← List.drop_drop]; exact hy.drop l1.length)
              have hname' : f.name ≠ "_" := by simpa using hname
              simp only [Op.eqFields, if_pos hname', Sem.run_bind, px, py, q1, Result.andThen_ok]
              cases r1 with
              | false => simp
              | true => simpa using q2
theorem eqT_run {D : Name → Prop} (d : Nat) : ∀ (n : Nat) {t : Nat} {l : List CT} {xs ys : List Cell} {vx vy : List Value} {r : Bool}, eqT P n t = some l → eqL l xs ys = some r → All2 (CellRep D g w) xs vx → All2 (CellRep D g w) ys vy →
    (Op.equalIn (d + n) t (valOf P t vx) (valOf P t vy)).run P w = .ok r w
  | 0, t, l, xs, ys, vx, vy, r, h, _, _, _ => by simp [eqT] at h
  | n + 1, t, l, xs, ys, vx, vy, r, h, he, hx, hy => by
    simp only [eqT] at h
    cases hu : P.underlying t with
    | none => rw [hu] at h; simp at h
    | some u =>
      rw [hu] at h
      unfold valOf
      rw [hu]
      have scal : ∀ c, l = [c] → ((∃ k, c = .int k ∧ u = .int k) ∨ (c = .bool ∧ u = .bool) ∨ (c = .str ∧ u = .string)) → (Op.equalIn (d + (n + 1)) t (vx.headD undef) (vy.headD undef)).run P w = .ok r w := by
        intro c hl hc
        subst hl
        match xs, ys, vx, vy, hx, hy, he with
        | [x], [y], [v], [v'], hx, hy, he =>
          have he : cellEq c x y = some r := by
            simp only [eqL] at he
            cases h1 : cellEq c x y with
            | none => rw [h1] at he; simp at he
            | some p => rw [h1] at he; simpa using he
          exact cellEq_run he hx.1 hy.1 hu hc
        | [], _, _, _, _, _, he => simp [eqL] at he
        | _ :: _, [], _, _, _, _, he => simp [eqL] at he
        | [_], _ :: _ :: _, _, _, _, _, he => simp [eqL] at he
        | _ :: _ :: _, [_], _, _, _, _, he => simp [eqL] at he
        | _ :: _ :: _, _ :: _ :: _, _, _, _, _, he => simp [eqL] at he
      cases u <;> try (simp at h; done)
      case int k => simp at h; exact scal _ h.symm (.inl ⟨k, rfl, rfl⟩)
      case bool => simp at h; exact scal _ h.symm (.inr (.inl ⟨rfl, rfl⟩))
      case string => simp at h; exact scal _ h.symm (.inr (.inr ⟨rfl, rfl⟩))
      case struct fs =>
        cases hs : P.stoodInHeld t with
        | true => rw [hs] at h; simp at h
        | false =>
          rw [hs] at h
          have hf : P.fieldsOf t = fs := by simp [Program.fieldsOf, hu]
          show (Op.equalIn ((d + n) + 1) t (.agg vx.toArray) (.agg vy.toArray)).run P w = _
          rw [run_equalIn_struct w (d + n) t _ _ (by rw [hf]; exact hu) hs, hf]
          exact eqFs_run n d (fun h he hx hy => eqT_run d n h he hx hy) 0 fs.toList h he (by simpa using hx) (by simpa using hy)
theorem cellsEq_flat : ∀ {e : Cs} {xs ys : List Cell} {r : Bool}, cellsEq e xs ys = some r → e.hasSl = false ∧ (e.parts.any fun c => match c with | .err => true | _ => false) = false
  | .one c, [x], [y], r, h => by
    simp only [cellsEq] at h
    cases c <;> simp [cellEq] at h <;> simp [Cs.hasSl, CT.isSl, Cs.parts]
  | .cons c e, x :: xs, y :: ys, r, h => by
    simp only [cellsEq] at h
    cases h1 : cellEq c x y with
    | none => rw [h1] at h; simp at h
    | some p =>
      cases h2 : cellsEq e xs ys with
      | none => rw [h1, h2] at h; simp at h
      | some q =>
        obtain ⟨k1, k2⟩ := cellsEq_flat h2
        simp only [Cs.hasSl, Cs.parts, List.any_cons, k1, k2]
        cases c <;> simp [cellEq] at h1 <;> simp [CT.isSl]
  | .one c, [], _, r, h => by simp [cellsEq] at h
  | .one c, [_], [], r, h => by simp [cellsEq] at h
  | .one c, [_], _ :: _ :: _, r, h => by simp [cellsEq] at h
  | .one c, _ :: _ :: _, _, r, h => by simp [cellsEq] at h
  | .cons c e, [], _, r, h => by simp [cellsEq] at h
  | .cons c e, _ :: _, [], r, h => by simp [cellsEq] at h
theorem agg_equal (hT : Tis P G.ti) (hE : Eqs P G.ti) {t : Nat} {i : TInfo} (hi : find G.ti t = some i) (ha : i.agg = true) {xs ys : List Cell} {r : Bool} (hr : cellsEq i.cs xs ys = some r) {D : Name → Prop} {vx vy : Array Value}
    (hx : All2 (CellRep D g w) xs vx.toList) (hy : All2 (CellRep D g w) ys vy.toList) : (Op.equal t (.agg vx) (.agg vy)).run P w = .ok r w ∧ P.eqGuardType P.depth t = false := by
  obtain ⟨f1, f2⟩ := cellsEq_flat hr
  have hk := hE t i hi
  simp only [eqOk, ha, f1, f2, Bool.not_true, Bool.false_or] at hk
  cases hl : eqT P 6 t with
  | none => rw [hl] at hk; simp at hk
  | some l =>
    rw [hl] at hk
    simp only [Bool.and_eq_true, Bool.not_eq_true'] at hk
    obtain rfl := sameParts_eq hk.1
    have := eqT_run (w := w) (D := D) 9994 6 hl (eqL_of hr) hx hy
    obtain ⟨d, u, z, hf⟩ := hT.facts hi
    obtain ⟨fs, hu, _⟩ := hf.agg ha
    have hv : ∀ v : Array Value, valOf P t v.toList = .agg v := fun v => by simp [valOf, hf.und, hu]
    rw [hv, hv] at this
    exact ⟨this, hk.2⟩
theorem op_agg (h : Inv w0 T N S g w a) (hT : Tis P G.ti) (hE : Eqs P G.ti) {op : BinOp} {t ty : TypeId} {x y : Operand} (ho : o.op = .binOp op t x y ty) {i : TInfo} (hi : find G.ti t = some i) {xs ys : List Cell} (hx : S.eval x = .agg xs) (hy : S.eval y = .agg ys) {c : Bool} {e : Eff} {L : List Name}
    (hr : (effBin i op c (.agg xs) (.agg ys)).Runs (find S.en) e L) : Fine P w0 T N S g w a o e := by
  have kx := eval_rep h x
  have ky := eval_rep h y
  rw [hx] at kx; rw [hy] at ky
  obtain ⟨vx, ex, kx⟩ := kx
  obtain ⟨vy, ey, ky⟩ := ky
  cases ha : i.agg with
  | false => cases op <;> first | exact hr.elim | (simp only [effBin, ha] at hr; exact hr.elim)
  | true =>
    cases op <;> try exact hr.elim
    case eql =>
      simp only [effBin, ha, cond_true] at hr
      cases hq : cellsEq i.cs xs ys with
      | none => rw [hq] at hr; exact hr.elim
      | some r =>
        rw [hq] at hr
        obtain ⟨k1, k2⟩ := agg_equal hT hE hi ha hq kx ky
        refine bool_fine h hr ?_
        simp [execOp, ho, ex, ey, eqGuard, k2, binOp, k1]
    case neq =>
      simp only [effBin, ha, cond_true] at hr
      cases hq : cellsEq i.cs xs ys with
      | none => rw [hq] at hr; exact hr.elim
      | some r =>
        rw [hq] at hr
        obtain ⟨k1, k2⟩ := agg_equal hT hE hi ha hq kx ky
        refine bool_fine h hr ?_
        simp [execOp, ho, ex, ey, eqGuard, k2, binOp, k1]
end Go.V
namespace Go.V
set_option linter.unusedVariables false
set_option linter.unusedSimpArgs false
variable {G : Env} {uid rid : Nat} {ops : List Oper}

theorem map_parts {parts : Array (Nat × Operand)} {ρ ρ' : Operand → AV} (h : ∀ x ∈ (parts.toList.map (·.2)).toArray, ρ x = ρ' x) : (parts.toList.map fun p => (p.1, ρ p.2)) = (parts.toList.map fun p => (p.1, ρ' p.2)) :=
  List.map_congr_left fun p hp => by rw [h p.2 (by simp only [List.mem_toArray, List.mem_map]; exact ⟨p, hp, rfl⟩)]
theorem eff_congr {ρ ρ' : Operand → AV} {op : Op} (h : ∀ x ∈ op.operands, ρ x = ρ' x) : eff G uid ρ op = eff G uid ρ' op := by
  cases op
  case build t ps => simp only [eff]; rw [map_parts h]
  case buildSlice t n ps => simp only [eff]; rw [map_parts h]
  case makeFunc f first caps =>
    simp only [Op.operands, Array.mem_append] at h
    have hc : caps.toList.map ρ = caps.toList.map ρ' := List.map_congr_left fun x hx => h x (.inr (by simpa using hx))
    cases f <;> try rfl
    rcases first with ⟨_ | ⟨_, _⟩⟩
    · simp only [eff, hc]
    · rfl
  case slice t x lo hi mx =>
    cases mx with
    | some _ => rfl
    | none =>
      have h1 : ρ x = ρ' x := h x (by simp [Op.operands])
      have h2 : lo.map ρ = lo.map ρ' := by
        cases lo with
        | none => rfl
        | some y => simp only [Option.map_some]; rw [h y (by simp [Op.operands])]
      have h3 : hi.map ρ = hi.map ρ' := by
        cases hi with
        | none => rfl
        | some y => simp only [Option.map_some]; rw [h y (by simp [Op.operands])]
      simp only [eff, h1, h2, h3]
  case call c =>
    have ha : ∀ x ∈ c.args.toList, ρ x = ρ' x := fun x hx => h x (by simp only [Op.operands, Call.operands, Array.mem_append]; exact .inr (by simpa using hx))
    have hm : c.args.toList.map ρ = c.args.toList.map ρ' := List.map_congr_left ha
    have hf : ∀ f, c.callee = .value f → ρ f = ρ' f := fun f hc => h f (by simp [Op.operands, Call.operands, hc])
    unfold eff
    split <;> first
      | rfl
      | (rename_i heq; cases heq; done)
      | (rename_i heq; cases heq; simp only [List.mem_cons, List.not_mem_nil, or_false, forall_eq_or_imp, forall_eq] at ha; simp only [ha])
      | (rename_i heq; cases heq; rw [hf _ rfl, hm])
  case unOp op t x =>
    have := h x (by simp [Op.operands])
    cases op <;> simp only [eff, this]
  case makeSlice t n c =>
    have h1 := h n (by simp [Op.operands])
    cases n <;> cases c <;> simp only [eff, h1]
  all_goals first
    | rfl
    | (simp [Op.operands] at h; simp only [eff, h])
theorem effOp_congr {ρ ρ' : Operand → AV} {op : Op} (h : ∀ x ∈ op.operands, ρ x = ρ' x) : effOp G uid ρ op = effOp G uid ρ' op := by
  cases op
  case pick c a b =>
    simp [Op.operands] at h
    simp only [effOp, h]
  all_goals exact eff_congr (G := G) (uid := uid) h

abbrev Res := Option (Eff × List Name)
def St.act (S : St) (o : Oper) : Res → St
  | some (e, _) => S.put o.dst e
  | none => S.put o.dst ⟨.cell .void, []⟩
def resNames : Res → List Name | some (e, _) => e.ents.map (·.1) | none => []
def resReads : Res → List Name | some (_, L) => L | none => []
def Wanted (ops : List Oper) (S : St) (o : Oper) : Prop := ∀ j want, o.guard = some (j, want) → ∃ t, dstOf ops j = some t ∧ S.tmp t = .cell (.bool want)
def Unwanted (ops : List Oper) (S : St) (o : Oper) : Prop := ∃ j want t, o.guard = some (j, want) ∧ dstOf ops j = some t ∧ (S.tmp t = .cell (.bool (!want)) ∨ S.tmp t = .cell .void)
def Step (G : Env) (rid : Nat) (ops : List Oper) (S : St) (i : Nat) (o : Oper) : Res → Prop
  | some (e, L) => Wanted ops S o ∧ (effOp G (uidOf rid i) S.eval o.op).Runs (find S.en) e L
  | none => Unwanted ops S o
structure Same (S S' : St) : Prop where
  tm : ∀ t, S.tmp t = S'.tmp t
  en : ∀ n, find S.en n = find S'.en n
abbrev Ev := Nat × Oper × Res
def Tr (G : Env) (rid : Nat) (ops : List Oper) : List Ev → St → St → Prop
  | [], S, S' => Same S S'
  | (i, o, r) :: l, S, S' => Step G rid ops S i o r ∧ Tr G rid ops l (S.act o r) S'
variable {S S' S1 S2 : St}
theorem Same.refl (S : St) : Same S S := ⟨fun _ => rfl, fun _ => rfl⟩
theorem Same.symm (h : Same S S') : Same S' S := ⟨fun t => (h.tm t).symm, fun n => (h.en n).symm⟩
theorem Same.trans (h : Same S S1) (k : Same S1 S2) : Same S S2 := ⟨fun t => (h.tm t).trans (k.tm t), fun n => (h.en n).trans (k.en n)⟩
theorem St.tmp_put (S : St) (dst : Option Tmp) (e : Eff) (t : Tmp) : (S.put dst e).tmp t = if dst = some t then e.val else S.tmp t := by
  unfold St.put St.tmp
  cases dst with
  | none => simp
  | some d =>
    simp only [find_cons, Option.some.injEq]
    by_cases h : d = t <;> simp [h]
theorem find_append {α : Type} (l m : List (Nat × α)) (n : Nat) : find (l ++ m) n = match find l n with | some x => some x | none => find m n := by
  induction l with
  | nil => rfl
  | cons p l ih =>
    obtain ⟨j, x⟩ := p
    rw [List.cons_append, find_cons, find_cons]
    split
    · rfl
    · exact ih
theorem St.en_put (S : St) (dst : Option Tmp) (e : Eff) : (S.put dst e).en = e.ents ++ S.en := rfl
theorem Same.put (h : Same S S') (dst : Option Tmp) (e : Eff) : Same (S.put dst e) (S'.put dst e) :=
  ⟨fun t => by rw [St.tmp_put, St.tmp_put, h.tm], fun n => by rw [St.en_put, St.en_put, find_append, find_append, h.en]⟩
theorem Same.act (h : Same S S') (o : Oper) (r : Res) : Same (S.act o r) (S'.act o r) := by
  cases r with
  | none => exact h.put _ _
  | some r => exact h.put _ _
theorem Same.eval (h : Same S S') : S.eval = S'.eval := by
  funext x
  cases x with
  | tmp t => exact h.tm t
  | _ => rfl
theorem Step.same (h : Same S S') {i : Nat} {o : Oper} {r : Res} (k : Step G rid ops S i o r) : Step G rid ops S' i o r := by
  cases r with
  | none =>
    obtain ⟨j, want, t, h1, h2, h3⟩ := k
    exact ⟨j, want, t, h1, h2, by rw [← h.tm]; exact h3⟩
  | some r =>
    obtain ⟨k1, k2⟩ := k
    refine ⟨fun j want hg => ?_, ?_⟩
    · obtain ⟨t, h1, h2⟩ := k1 j want hg; exact ⟨t, h1, by rw [← h.tm]; exact h2⟩
    · rw [← h.eval]; exact Rd.runs_local (fun n _ => (h.en n).symm) k2
theorem Tr.same : ∀ {l : List Ev} {S S' : St}, Same S S' → Tr G rid ops l S S1 → Tr G rid ops l S' S1
  | [], S, S', h, k => h.symm.trans k
  | (i, o, r) :: l, S, S', h, ⟨k1, k2⟩ => ⟨k1.same h, Tr.same (h.act o r) k2⟩
def Looks (ops : List Oper) (o : Oper) (t : Tmp) : Prop := .tmp t ∈ o.op.operands ∨ ∃ j want, o.guard = some (j, want) ∧ dstOf ops j = some t
structure Indep (ops : List Oper) (x y : Oper) (rx ry : Res) : Prop where
  xy : ∀ d, x.dst = some d → ¬ Looks ops y d
  yx : ∀ d, y.dst = some d → ¬ Looks ops x d
  dd : ∀ d, x.dst = some d → y.dst ≠ some d
  wr : ∀ n ∈ resNames rx, n ∉ resReads ry
  rw : ∀ n ∈ resNames ry, n ∉ resReads rx
  ww : ∀ n ∈ resNames rx, n ∉ resNames ry
theorem Indep.symm {x y : Oper} {rx ry : Res} (h : Indep ops x y rx ry) : Indep ops y x ry rx :=
  ⟨h.yx, h.xy, fun d hd he => h.dd d he hd, h.rw, h.wr, fun n hn he => h.ww n he hn⟩
theorem St.tmp_act (S : St) (o : Oper) (r : Res) (t : Tmp) (h : o.dst ≠ some t) : (S.act o r).tmp t = S.tmp t := by
  cases r with
  | none => simp only [St.act, St.tmp_put, if_neg h]
  | some r => simp only [St.act, St.tmp_put, if_neg h]
theorem St.en_act (S : St) (o : Oper) (r : Res) (n : Name) (h : n ∉ resNames r) : find (S.act o r).en n = find S.en n := by
  cases r with
  | none => rfl
  | some r =>
    simp only [St.act, St.en_put]
    exact find_skip h
theorem Step.move {i : Nat} {o p : Oper} {r q : Res} (hl : ∀ d, p.dst = some d → ¬ Looks ops o d) (hr : ∀ n ∈ resNames q, n ∉ resReads r) : Step G rid ops (S.act p q) i o r ↔ Step G rid ops S i o r := by
  have htm : ∀ t, Looks ops o t → (S.act p q).tmp t = S.tmp t := fun t ht => St.tmp_act S p q t fun hd => hl t hd ht
  have hev : ∀ x ∈ o.op.operands, (S.act p q).eval x = S.eval x := fun x hx => by
    cases x with
    | tmp t => exact htm t (.inl hx)
    | _ => rfl
  cases r with
  | none =>
    constructor
    · rintro ⟨j, want, t, h1, h2, h3⟩; exact ⟨j, want, t, h1, h2, by rw [← htm t (.inr ⟨j, want, h1, h2⟩)]; exact h3⟩
    · rintro ⟨j, want, t, h1, h2, h3⟩; exact ⟨j, want, t, h1, h2, by rw [htm t (.inr ⟨j, want, h1, h2⟩)]; exact h3⟩
  | some r =>
    have hw : Wanted ops (S.act p q) o ↔ Wanted ops S o := by
      constructor
      · intro k j want hg; obtain ⟨t, h1, h2⟩ := k j want hg; exact ⟨t, h1, by rw [← htm t (.inr ⟨j, want, hg, h1⟩)]; exact h2⟩
      · intro k j want hg; obtain ⟨t, h1, h2⟩ := k j want hg; exact ⟨t, h1, by rw [htm t (.inr ⟨j, want, hg, h1⟩)]; exact h2⟩
    have hn : ∀ n ∈ r.2, find (S.act p q).en n = find S.en n := fun n hn => St.en_act S p q n fun hq => hr n hq hn
    simp only [Step, hw, effOp_congr hev]
    exact ⟨fun ⟨k1, k2⟩ => ⟨k1, Rd.runs_local (fun n h => (hn n h).symm) k2⟩, fun ⟨k1, k2⟩ => ⟨k1, Rd.runs_local hn k2⟩⟩
theorem act_comm (S : St) {x y : Oper} {rx ry : Res} (h : Indep ops x y rx ry) : Same ((S.act x rx).act y ry) ((S.act y ry).act x rx) := by
  constructor
  · intro t
    by_cases hx : x.dst = some t
    · rw [St.tmp_act _ y ry t (h.dd t hx)]
      have key : ∀ S' : St, (S'.act x rx).tmp t = match rx with | some (e, _) => e.val | none => .cell .void := fun S' => by
        cases rx with
        | none => simp only [St.act, St.tmp_put, hx, if_true]
        | some r => simp only [St.act, St.tmp_put, hx, if_true]
      rw [key, key]
    · rw [St.tmp_act (S.act y ry) x rx t hx]
      by_cases hy : y.dst = some t
      · have key : ∀ S' : St, (S'.act y ry).tmp t = match ry with | some (e, _) => e.val | none => .cell .void := fun S' => by
          cases ry with
          | none => simp only [St.act, St.tmp_put, hy, if_true]
          | some r => simp only [St.act, St.tmp_put, hy, if_true]
        rw [key, key]
      · rw [St.tmp_act _ y ry t hy, St.tmp_act _ x rx t hx, St.tmp_act _ y ry t hy]
  · intro n
    by_cases hx : n ∈ resNames rx
    · rw [St.en_act _ y ry n (h.ww n hx)]
      cases rx with
      | none => simp [resNames] at hx
      | some r => simp only [St.act, St.en_put]; rw [find_hit hx, find_hit hx]
    · rw [St.en_act (S.act y ry) x rx n hx]
      by_cases hy : n ∈ resNames ry
      · cases ry with
        | none => simp [resNames] at hy
        | some r => simp only [St.act, St.en_put]; rw [find_hit hy, find_hit hy]
      · rw [St.en_act _ y ry n hy, St.en_act _ x rx n hx, St.en_act _ y ry n hy]
theorem Tr.swap {i j : Nat} {x y : Oper} {rx ry : Res} {l : List Ev} (h : Indep ops x y rx ry) (k : Tr G rid ops ((i, x, rx) :: (j, y, ry) :: l) S S') : Tr G rid ops ((j, y, ry) :: (i, x, rx) :: l) S S' := by
  obtain ⟨k1, k2, k3⟩ := k
  exact ⟨(Step.move h.xy h.wr).1 k2, (Step.move h.yx h.rw).2 k1, Tr.same (act_comm S h) k3⟩
theorem Tr.bubble {j : Nat} {y : Oper} {ry : Res} {l : List Ev} : ∀ {A : List Ev} {S : St}, (∀ p ∈ A, Indep ops p.2.1 y p.2.2 ry) → Tr G rid ops (A ++ (j, y, ry) :: l) S S' → Tr G rid ops ((j, y, ry) :: (A ++ l)) S S'
  | [], S, _, k => k
  | (i, x, rx) :: A, S, h, ⟨k1, k2⟩ => by
    have k2 := Tr.bubble (A := A) (fun p hp => h p (List.mem_cons_of_mem _ hp)) k2
    exact Tr.swap (h (i, x, rx) List.mem_cons_self) ⟨k1, k2⟩
end Go.V
namespace Go.V
set_option linter.unusedVariables false
set_option linter.unusedSimpArgs false
variable {G : Env} {uid rid : Nat} {en : List (Name × Entry)} {e : Eff} {L : List Name} {ρ : Operand → AV}

def Cell.refs : Cell → List Name | .own r => [r] | .win r _ _ => [r] | .elem r _ _ => [r] | .box n _ => [n] | .fn _ caps => caps | .sub r _ _ => [r] | .kid r _ _ _ => [r] | _ => []
def CIn (D : Name → Prop) (c : Cell) : Prop := ∀ n ∈ c.refs, D n
def AVIn0 (D : Name → Prop) : AV → Prop | .cell c => CIn D c | .agg cs => ∀ c ∈ cs, CIn D c | .tup _ => False
def AVIn (D : Name → Prop) : AV → Prop | .tup vs => ∀ v ∈ vs, AVIn0 D v | x => AVIn0 D x
theorem CIn.mono {D D' : Name → Prop} (h : ∀ n, D n → D' n) {c : Cell} (k : CIn D c) : CIn D' c := fun n hn => h n (k n hn)
theorem AVIn0.mono {D D' : Name → Prop} (h : ∀ n, D n → D' n) {x : AV} (k : AVIn0 D x) : AVIn0 D' x := by
  cases x with
  | cell c => exact CIn.mono h k
  | agg cs => exact fun c hc => CIn.mono h (k c hc)
  | tup _ => exact k.elim
theorem AVIn.mono {D D' : Name → Prop} (h : ∀ n, D n → D' n) {x : AV} (k : AVIn D x) : AVIn D' x := by
  cases x with
  | tup vs => exact fun v hv => AVIn0.mono h (k v hv)
  | cell c => exact AVIn0.mono (x := .cell c) h k
  | agg cs => exact AVIn0.mono (x := .agg cs) h k
theorem AVIn.cells {D : Name → Prop} {x : AV} (k : AVIn D x) : ∀ c ∈ x.cells, CIn D c := by
  cases x with
  | cell c => intro c' hc; rw [show c' = c by simpa [AV.cells] using hc]; exact k
  | agg cs => exact k
  | tup _ => intro c hc; simp [AV.cells] at hc
def BoxIn (en : List (Name × Entry)) : Prop := ∀ n cs, find en n = some (.box cs) → ∀ c ∈ cs, CIn (dom en) c
structure EffIn (en : List (Name × Entry)) (e : Eff) : Prop where
  val : AVIn (dom (e.ents ++ en)) e.val
  box : ∀ n cs, (n, Entry.box cs) ∈ e.ents → ∀ c ∈ cs, CIn (dom (e.ents ++ en)) c
theorem dom_more (l en : List (Name × Entry)) : ∀ n, dom en n → dom (l ++ en) n := fun n h => by
  unfold dom at h ⊢; rw [find_append]; cases find l n <;> simp [h]
theorem EffIn.one {c : Cell} (hr : (one c).Runs (find en) e L) (h : CIn (dom en) c) : EffIn en e := by
  obtain ⟨rfl, _⟩ := hr
  exact ⟨h, by simp⟩
theorem EffIn.pure {x : AV} (h : AVIn (dom en) x) : EffIn en ⟨x, []⟩ := ⟨h, by simp⟩
theorem whole_in {agg : Bool} {cs : List Cell} (hr : (whole agg cs).Runs (find en) e L) (h : ∀ c ∈ cs, CIn (dom en) c) : EffIn en e := by
  unfold whole at hr
  split at hr
  · obtain ⟨rfl, _⟩ := hr; exact EffIn.pure h
  · exact EffIn.one hr (h _ (by simp))
  · exact hr.elim
theorem CT.cell_in {D : Name → Prop} (c : CT) (x : c.den) : CIn D (c.cell x) := by cases c <;> simp [CT.cell, CIn, Cell.refs]
theorem CT.treeCell_in {D : Name → Prop} {r : Name} {i j : Nat} (hr : D r) (c : CT) (x : c.den) : CIn D (c.treeCell r i j x) := by
  cases c with
  | sl e => intro n hn; simp [CT.treeCell, Cell.refs] at hn; subst hn; exact hr
  | int k => exact CT.cell_in (.int k) x
  | bool => exact CT.cell_in .bool x
  | str => exact CT.cell_in .str x
  | err => exact CT.cell_in .err x
theorem Cs.treeCells_in {D : Name → Prop} {r : Name} {i : Nat} (hr : D r) : ∀ (e : Cs) (j : Nat) (x : e.den), ∀ c ∈ e.treeCells r i j x, CIn D c
  | .one c, j, x, d, hd => by simp only [Cs.treeCells, List.mem_singleton] at hd; subst hd; exact CT.treeCell_in hr c x
  | .cons c s, j, x, d, hd => by
    simp only [Cs.treeCells, List.mem_cons] at hd
    rcases hd with rfl | hd
    · exact CT.treeCell_in hr c x.1
    · exact Cs.treeCells_in hr s (j + 1) x.2 d hd
theorem CT.kidCell_in {D : Name → Prop} {r : Name} {j : Nat} (hr : D r) (c : CT) (x : c.den) : CIn D (c.kidCell r j x) := by
  cases c with
  | sl e => intro n hn; simp [CT.kidCell, Cell.refs] at hn; subst hn; exact hr
  | int k => exact CT.cell_in (.int k) x
  | bool => exact CT.cell_in .bool x
  | str => exact CT.cell_in .str x
  | err => exact CT.cell_in .err x
theorem Cs.kidCells_in {D : Name → Prop} {r : Name} (hr : D r) : ∀ (e : Cs) (j : Nat) (x : e.den), ∀ c ∈ e.kidCells r j x, CIn D c
  | .one c, j, x, d, hd => by simp only [Cs.kidCells, List.mem_singleton] at hd; subst hd; exact CT.kidCell_in hr c x
  | .cons c s, j, x, d, hd => by
    simp only [Cs.kidCells, List.mem_cons] at hd
    rcases hd with rfl | hd
    · exact CT.kidCell_in hr c x.1
    · exact Cs.kidCells_in hr s (j + 1) x.2 d hd
theorem Cs.cells_in {D : Name → Prop} : ∀ (e : Cs) (x : e.den), ∀ c ∈ e.cells x, CIn D c
  | .one c, x, d, hd => by simp only [Cs.cells, List.mem_singleton] at hd; subst hd; exact CT.cell_in c x
  | .cons c r, x, d, hd => by
    simp only [Cs.cells, List.mem_cons] at hd
    rcases hd with rfl | hd
    · exact CT.cell_in c x.1
    · exact Cs.cells_in r x.2 d hd
theorem Cs.zero_in {D : Name → Prop} : ∀ (e : Cs), ∀ c ∈ e.zeroCells, CIn D c
  | .one c, d, hd => by simp only [Cs.zeroCells, List.mem_singleton] at hd; subst hd; cases c <;> simp [zeroCell, CT.cell, CIn, Cell.refs]
  | .cons c r, d, hd => by
    simp only [Cs.zeroCells, List.mem_cons] at hd
    rcases hd with rfl | hd
    · cases c <;> simp [zeroCell, CT.cell, CIn, Cell.refs]
    · exact Cs.zero_in r d hd
theorem mem_sub {cs : List Cell} {o n : Nat} {c : Cell} (h : c ∈ sub cs o n) : c ∈ cs := List.mem_of_mem_drop (List.mem_of_mem_take h)
theorem mem_setSub {cs vs : List Cell} {o : Nat} {c : Cell} (h : c ∈ setSub cs o vs) : c ∈ cs ∨ c ∈ vs := by
  unfold setSub at h
  simp only [List.mem_append] at h
  rcases h with (h | h) | h
  · exact .inl (List.mem_of_mem_take h)
  · exact .inr h
  · exact .inl (List.mem_of_mem_drop h)
theorem const_in {D : Name → Prop} (v : Value) : AVIn D (constAV v) := by
  unfold constAV; split <;> simp [AVIn, AVIn0, CIn, Cell.refs, AV.undef]
theorem data_in {D : Name → Prop} {c : Cell} (h : c.refs = []) : CIn D c := fun n hn => by rw [h] at hn; simp at hn
theorem made_in {v : AV} {news olds : List (Name × Entry)} (hr : (made v news olds).Runs (find en) e L) (hv : AVIn (dom (news ++ olds ++ en)) v) (hb : ∀ n cs, (n, Entry.box cs) ∈ news ++ olds → ∀ c ∈ cs, CIn (dom (news ++ olds ++ en)) c) : EffIn en e := by
  obtain ⟨rfl, _⟩ := made_runs hr
  exact ⟨hv, hb⟩
theorem dom_head {n : Name} {x : Entry} {l : List (Name × Entry)} : dom ((n, x) :: l) n := dom_cons.2 (.inl rfl)
theorem buildCells_in {D : Name → Prop} {fl : List (Nat × Nat)} {sz : Nat → Nat} : ∀ {parts : List (Nat × AV)} {cs cs' : List Cell}, buildCells fl sz cs parts = some cs' → (∀ c ∈ cs, CIn D c) → (∀ p ∈ parts, AVIn D p.2) → ∀ c ∈ cs', CIn D c
  | [], cs, cs', h, hc, _ => by simp only [buildCells, Option.some.injEq] at h; subst h; exact hc
  | (i, v) :: r, cs, cs', h, hc, hp => by
    simp only [buildCells] at h
    split at h
    · rename_i f _
      cases hk : (Nat.beq v.cells.length (sz f.1) && Nat.ble (f.2 + v.cells.length) cs.length && noUndef v.cells) with
      | false => rw [hk] at h; cases h
      | true =>
        rw [hk] at h
        refine buildCells_in h (fun c hc' => ?_) (fun p hp' => hp p (List.mem_cons_of_mem _ hp'))
        rcases mem_setSub hc' with h1 | h1
        · exact hc c h1
        · exact (hp (i, v) List.mem_cons_self).cells c h1
    · cases h
end Go.V
namespace Go.V
set_option linter.unusedVariables false
set_option linter.unusedSimpArgs false
variable {G : Env} {uid rid : Nat} {en : List (Name × Entry)} {e : Eff} {L : List Name} {ρ : Operand → AV}

def NB (l : List (Name × Entry)) : Prop := ∀ n cs, (n, Entry.box cs) ∉ l
theorem NB.nil : NB [] := fun _ _ h => by simp at h
theorem NB.append {l m : List (Name × Entry)} (h : NB l) (k : NB m) : NB (l ++ m) := fun n cs hm => (List.mem_append.1 hm).elim (h n cs) (k n cs)
theorem NB.one {r : Name} {E : Entry} (h : ∀ cs, E ≠ .box cs) : NB [(r, E)] := fun n cs hm => by
  simp only [List.mem_singleton, Prod.mk.injEq] at hm; exact h cs hm.2.symm
variable {F : Name → Option Entry}
theorem takeL_nb {kp : Bool} {c : Cs} {x : Cell} {y : List c.den × List (Name × Entry)} (hr : (takeL kp c x).Runs F y L) : NB y.2 := by
  unfold takeL at hr
  split at hr
  · obtain ⟨rfl, _⟩ := hr; exact NB.nil
  · obtain ⟨L', _, hr⟩ := hr
    dsimp only at hr
    split at hr
    · split at hr
      · obtain ⟨rfl, _⟩ := hr; exact NB.one (by cases kp <;> simp)
      · exact hr.elim
    · cases kp with
      | false => exact hr.elim
      | true =>
        simp only [cond_true] at hr
        split at hr
        · obtain ⟨rfl, _⟩ := hr; exact NB.one (by simp)
        · exact hr.elim
    · exact hr.elim
  · exact hr.elim
theorem sealL_nb {c : Cs} {x : Cell} {y : List c.den × List (Name × Entry)} (hr : (sealL c x).Runs F y L) : NB y.2 := by
  unfold sealL at hr
  split at hr
  · obtain ⟨L', _, hr⟩ := hr
    dsimp only at hr
    split at hr
    · split at hr
      · obtain ⟨rfl, _⟩ := hr; exact NB.one (by simp)
      · exact hr.elim
    · split at hr
      · obtain ⟨rfl, _⟩ := hr; exact NB.nil
      · exact hr.elim
    · split at hr
      · obtain ⟨rfl, _⟩ := hr; exact NB.nil
      · exact hr.elim
    · exact hr.elim
  · obtain ⟨L', _, hr⟩ := hr
    dsimp only at hr
    split at hr
    · split at hr
      · obtain ⟨rfl, _⟩ := hr; exact NB.one (by simp)
      · exact hr.elim
    · exact hr.elim
  · split at hr
    · obtain ⟨rfl, _⟩ := hr; exact NB.nil
    · exact hr.elim
  · split at hr
    · obtain ⟨rfl, _⟩ := hr; exact NB.nil
    · exact hr.elim
  · obtain ⟨rfl, _⟩ := hr; exact NB.nil
  · exact hr.elim
theorem dstL_nb {c : Cs} {x : Cell} {y : List c.den × Option Bool × List (Name × Entry)} (hr : (dstL c x).Runs F y L) : NB y.2.2 := by
  unfold dstL at hr
  split at hr
  · obtain ⟨rfl, _⟩ := hr; exact NB.nil
  · obtain ⟨L', _, hr⟩ := hr
    dsimp only at hr
    split at hr
    · split at hr
      · obtain ⟨rfl, _⟩ := hr; exact NB.one (by simp)
      · exact hr.elim
    · exact hr.elim
  · obtain ⟨L', _, hr⟩ := hr
    dsimp only at hr
    split at hr
    · split at hr
      · obtain ⟨rfl, _⟩ := hr; exact NB.one (by simp)
      · exact hr.elim
    · exact hr.elim
  · exact hr.elim
theorem takeS_nb {c : Cs} {x : Cell} {y : List c.den × List (Name × Entry)} (hr : (takeS c x).Runs F y L) : NB y.2 := by
  unfold takeS at hr
  obtain ⟨a, L1, L2, _, h1, rfl, _⟩ := Rd.runs_bind hr
  exact dstL_nb h1
theorem CT.into_nb {m kp : Bool} {c : CT} {x : Cell} {y : c.den × List (Name × Entry)} (hr : (c.into m kp x).Runs F y L) : NB y.2 := by
  cases c with
  | sl e =>
    cases m with
    | true => exact takeL_nb hr
    | false => cases kp with
      | true => exact sealL_nb hr
      | false => exact takeS_nb hr
  | int => simp only [CT.into] at hr; obtain ⟨a, L1, L2, _, _, rfl, _⟩ := Rd.runs_bind hr; exact NB.nil
  | bool => simp only [CT.into] at hr; obtain ⟨a, L1, L2, _, _, rfl, _⟩ := Rd.runs_bind hr; exact NB.nil
  | str => simp only [CT.into] at hr; obtain ⟨a, L1, L2, _, _, rfl, _⟩ := Rd.runs_bind hr; exact NB.nil
  | err => simp only [CT.into] at hr; obtain ⟨a, L1, L2, _, _, rfl, _⟩ := Rd.runs_bind hr; exact NB.nil
theorem Cs.into_nb {m kp : Bool} : ∀ {c : Cs} {x : List Cell} {y : c.den × List (Name × Entry)} {L : List Name}, (c.into m kp x).Runs F y L → NB y.2
  | .one c, [], _, _, hr => hr.elim
  | .one c, [x], y, L, hr => CT.into_nb hr
  | .one c, _ :: _ :: _, _, _, hr => hr.elim
  | .cons c r, [], _, _, hr => hr.elim
  | .cons c r, x :: xs, y, L, hr => by
    simp only [Cs.into] at hr
    obtain ⟨a, L1, L2, _, h1, hr⟩ := Rd.runs_bind hr
    obtain ⟨b, L3, L4, _, h2, hr⟩ := Rd.runs_bind hr
    obtain ⟨rfl, _⟩ := hr
    exact (CT.into_nb h1).append (Cs.into_nb h2)
theorem Cs.intoO_nb {o : Option Bool} {c : Cs} {x : List Cell} {y : c.den × List (Name × Entry)} {L : List Name} (hr : (c.intoO o x).Runs F y L) : NB y.2 := by
  cases o with
  | none => exact Cs.into_nb hr
  | some m => exact Cs.into_nb hr
theorem Cs.upd_nb {m : Bool} : ∀ {c : Cs} {z : c.den} {o : Nat} {x : List Cell} {y : c.den × List (Name × Entry)} {L : List Name}, (c.upd m z o x).Runs F y L → NB y.2
  | .one c, z, 0, [], y, L, hr => by obtain ⟨rfl, _⟩ := hr; exact NB.nil
  | .one c, z, o + 1, [], y, L, hr => by obtain ⟨rfl, _⟩ := hr; exact NB.nil
  | .cons c r, z, 0, [], y, L, hr => by obtain ⟨rfl, _⟩ := hr; exact NB.nil
  | .cons c r, z, o + 1, [], y, L, hr => by obtain ⟨rfl, _⟩ := hr; exact NB.nil
  | .one c, z, 0, [x], y, L, hr => CT.into_nb hr
  | .one c, z, 0, _ :: _ :: _, y, L, hr => hr.elim
  | .one c, z, o + 1, _ :: _, y, L, hr => hr.elim
  | .cons c r, z, 0, x :: xs, y, L, hr => by
    simp only [Cs.upd] at hr
    obtain ⟨a, L1, L2, _, h1, hr⟩ := Rd.runs_bind hr
    obtain ⟨b, L3, L4, _, h2, hr⟩ := Rd.runs_bind hr
    obtain ⟨rfl, _⟩ := hr
    exact (CT.into_nb h1).append (Cs.upd_nb h2)
  | .cons c r, z, o + 1, x :: xs, y, L, hr => by
    simp only [Cs.upd] at hr
    obtain ⟨b, L3, L4, _, h2, hr⟩ := Rd.runs_bind hr
    obtain ⟨rfl, _⟩ := hr
    show NB b.2
    exact Cs.upd_nb h2
theorem srcL_nb {c : Cs} {x : Cell} {y : List c.den × Option Bool × List (Name × Entry)} (hr : (srcL c x).Runs F y L) : NB y.2.2 := by
  unfold srcL at hr
  cases hs : c.hasSl with
  | false =>
    rw [hs] at hr
    obtain ⟨xs, L1, L2, _, _, rfl, _⟩ := Rd.runs_bind hr; exact NB.nil
  | true =>
    rw [hs] at hr
    simp only [cond_true] at hr
    split at hr
    · obtain ⟨L', _, hr⟩ := hr
      dsimp only at hr
      split at hr
      · split at hr
        · obtain ⟨rfl, _⟩ := hr; exact NB.one (by simp)
        · exact hr.elim
      · split at hr
        · obtain ⟨rfl, _⟩ := hr; exact NB.nil
        · exact hr.elim
      · exact hr.elim
    · split at hr
      · obtain ⟨rfl, _⟩ := hr; exact NB.nil
      · exact hr.elim
    · obtain ⟨L', _, hr⟩ := hr
      dsimp only at hr
      split at hr
      · split at hr
        · obtain ⟨rfl, _⟩ := hr; exact NB.nil
        · exact hr.elim
      · exact hr.elim
    · obtain ⟨rfl, _⟩ := hr; exact NB.nil
    · exact hr.elim
theorem rowOf_nb {c : Cs} {m : Bool} {parts : List (Nat × AV)} : ∀ {n i : Nat} {y : List c.den × List (Name × Entry)} {L : List Name}, (rowOf c m parts n i).Runs F y L → NB y.2
  | 0, i, y, L, hr => by obtain ⟨rfl, _⟩ := hr; exact NB.nil
  | n + 1, i, y, L, hr => by
    simp only [rowOf] at hr
    obtain ⟨a, L1, L2, _, h1, hr⟩ := Rd.runs_bind hr
    obtain ⟨b, L3, L4, _, h2, hr⟩ := Rd.runs_bind hr
    obtain ⟨rfl, _⟩ := hr
    exact (Cs.into_nb h1).append (rowOf_nb h2)

theorem CT.give_in {mm : Bool} {n : Name} (c : CT) (x : c.den) : NB (c.give mm n x).2 ∧ CIn (dom (c.give mm n x).2) (c.give mm n x).1 := by
  cases c with
  | sl e => exact ⟨NB.one (by simp), fun m hm => by simp [CT.give, Cell.refs] at hm; subst hm; exact dom_head⟩
  | int => exact ⟨NB.nil, data_in rfl⟩
  | bool => exact ⟨NB.nil, data_in rfl⟩
  | str => exact ⟨NB.nil, data_in rfl⟩
  | err => exact ⟨NB.nil, data_in rfl⟩
theorem dom_left {l m : List (Name × Entry)} {n : Name} (h : dom l n) : dom (l ++ m) n := by
  unfold dom at h ⊢; rw [find_append]; cases hf : find l n with
  | none => exact absurd hf h
  | some x => simp
theorem dom_right {l m : List (Name × Entry)} {n : Name} (h : dom m n) : dom (l ++ m) n := dom_more l m n h
theorem Cs.give_in {mm : Bool} : ∀ (n : Name) (c : Cs) (x : c.den), NB (c.give mm n x).2 ∧ ∀ d ∈ (c.give mm n x).1, CIn (dom (c.give mm n x).2) d
  | n, .one c, x => by
    obtain ⟨h1, h2⟩ := CT.give_in (mm := mm) (n := n) c x
    exact ⟨h1, fun d hd => by simp only [Cs.give, List.mem_singleton] at hd; subst hd; exact h2⟩
  | n, .cons c r, x => by
    obtain ⟨h1, h2⟩ := CT.give_in (mm := mm) (n := n) c x.1
    obtain ⟨h3, h4⟩ := Cs.give_in (n + 1) r x.2
    refine ⟨h1.append h3, fun d hd => ?_⟩
    simp only [Cs.give, List.mem_cons] at hd
    rcases hd with rfl | hd
    · exact h2.mono fun _ h => dom_left h
    · exact (h4 d hd).mono fun _ h => dom_right h
theorem giveC_in (own : Option Bool) (n : Name) (c : Cs) (x : c.den) : NB (giveC own n c x).2 ∧ ∀ d ∈ (giveC own n c x).1, CIn (dom (giveC own n c x).2) d := by
  cases own with
  | some m => exact Cs.give_in n c x
  | none => exact ⟨NB.nil, Cs.cells_in c x⟩
theorem CT.giveF_in {n : Name} (c : CT) (x : c.den) : NB (c.giveF n x).2 ∧ CIn (dom (c.giveF n x).2) (c.giveF n x).1 := by
  cases c with
  | sl e => exact ⟨NB.one (by simp), fun m hm => by simp [CT.giveF, Cell.refs] at hm; subst hm; exact dom_head⟩
  | int => exact ⟨NB.nil, data_in rfl⟩
  | bool => exact ⟨NB.nil, data_in rfl⟩
  | str => exact ⟨NB.nil, data_in rfl⟩
  | err => exact ⟨NB.nil, data_in rfl⟩
theorem Cs.giveF_in : ∀ (n : Name) (c : Cs) (x : c.den), NB (Cs.giveF n c x).2 ∧ ∀ d ∈ (Cs.giveF n c x).1, CIn (dom (Cs.giveF n c x).2) d
  | n, .one c, x => by
    obtain ⟨h1, h2⟩ := CT.giveF_in (n := n) c x
    exact ⟨h1, fun d hd => by simp only [Cs.giveF, List.mem_singleton] at hd; subst hd; exact h2⟩
  | n, .cons c r, x => by
    obtain ⟨h1, h2⟩ := CT.giveF_in (n := n) c x.1
    obtain ⟨h3, h4⟩ := Cs.giveF_in (n + 1) r x.2
    refine ⟨h1.append h3, fun d hd => ?_⟩
    simp only [Cs.giveF, List.mem_cons] at hd
    rcases hd with rfl | hd
    · exact h2.mono fun _ h => dom_left h
    · exact (h4 d hd).mono fun _ h => dom_right h
end Go.V
namespace Go.V
set_option linter.unusedVariables false
set_option linter.unusedSimpArgs false
variable {G : Env} {uid rid : Nat} {en : List (Name × Entry)} {e : Eff} {L : List Name} {ρ : Operand → AV} {F : Name → Option Entry}

theorem avOf_in {D : Name → Prop} {agg : Bool} {cs : List Cell} (h : ∀ c ∈ cs, CIn D c) : AVIn0 D (avOf agg cs) := by
  unfold avOf
  split
  · exact h _ (by simp)
  · exact h
structure GivenIn (bs : List Name) (g : Given) : Prop where
  vals : ∀ v ∈ g.vals, AVIn0 (dom (g.upds ++ g.news)) v
  news : ∀ n cs, (n, Entry.box cs) ∈ g.news → ∀ c ∈ cs, CIn (dom (g.upds ++ g.news)) c
  upds : ∀ n cs, (n, Entry.box cs) ∈ g.upds → ∀ c ∈ cs, CIn (dom (g.upds ++ g.news)) c
theorem dom_iff {l : List (Name × Entry)} {n : Name} : dom l n ↔ n ∈ l.map (·.1) := find_in.symm
theorem CIn.sub {l m : List (Name × Entry)} (h : ∀ n, n ∈ l.map (·.1) → n ∈ m.map (·.1)) {c : Cell} (k : CIn (dom l) c) : CIn (dom m) c := fun n hn => dom_iff.2 (h n (dom_iff.1 (k n hn)))
theorem AVIn0.sub {l m : List (Name × Entry)} (h : ∀ n, n ∈ l.map (·.1) → n ∈ m.map (·.1)) {c : AV} (k : AVIn0 (dom l) c) : AVIn0 (dom m) c := k.mono fun n hn => dom_iff.2 (h n (dom_iff.1 hn))
theorem giveRes_in {bs : List Name} : ∀ (n : Name) (rs : List RSig) (x : Tup (rsCs rs)), GivenIn bs (giveRes n rs x)
  | n, [], x => ⟨by simp [giveRes], by simp [giveRes], by simp [giveRes]⟩
  | n, .val agg c own :: rs, x => by
    obtain ⟨h1, h2, h3⟩ := giveRes_in (bs := bs) (n + 64) rs (Tup.tl c (rsCs rs) x)
    obtain ⟨k1, k2⟩ := giveC_in own n c (Tup.hd c (rsCs rs) x)
    refine ⟨fun v hv => ?_, fun m cs hm d hd => ?_, fun m cs hm d hd => ?_⟩
    · simp only [giveRes, List.mem_cons] at hv
      rcases hv with rfl | hv
      · exact (avOf_in k2).sub (by simp +contextual [giveRes])
      · refine (h1 v hv).sub ?_
        intro z hz; simp only [giveRes, List.map_append, List.mem_append] at hz ⊢; rcases hz with h | h <;> simp [h]
    · simp only [giveRes, List.mem_append] at hm
      rcases hm with hm | hm
      · exact absurd hm (k1 m cs)
      · refine (h2 m cs hm d hd).sub ?_
        intro z hz; simp only [giveRes, List.map_append, List.mem_append] at hz ⊢; rcases hz with h | h <;> simp [h]
    · refine (h3 m cs hm d hd).sub ?_
      intro z hz; simp only [giveRes, List.map_append, List.mem_append] at hz ⊢; rcases hz with h | h <;> simp [h]
  | n, .ptr c own :: rs, x => by
    obtain ⟨h1, h2, h3⟩ := giveRes_in (bs := bs) (n + 64) rs (Tup.tl c (rsCs rs) x)
    obtain ⟨k1, k2⟩ := giveC_in own (n + 1) c (Tup.hd c (rsCs rs) x)
    refine ⟨fun v hv => ?_, fun m cs hm d hd => ?_, fun m cs hm d hd => ?_⟩
    · simp only [giveRes, List.mem_cons] at hv
      rcases hv with rfl | hv
      · intro z hz
        simp only [Cell.refs, List.mem_singleton] at hz; subst hz
        exact dom_iff.2 (by simp [giveRes])
      · refine (h1 v hv).sub ?_
        intro z hz; simp only [giveRes, List.map_append, List.map_cons, List.mem_append, List.mem_cons] at hz ⊢; rcases hz with h | h <;> simp [h]
    · simp only [giveRes, List.mem_cons, List.mem_append, Prod.mk.injEq] at hm
      rcases hm with ⟨rfl, hb⟩ | hm | hm
      · cases hb
        refine (k2 d hd).sub ?_
        intro z hz; simp only [giveRes, List.map_append, List.map_cons, List.mem_append, List.mem_cons]; simp [hz]
      · exact absurd hm (k1 m cs)
      · refine (h2 m cs hm d hd).sub ?_
        intro z hz; simp only [giveRes, List.map_append, List.map_cons, List.mem_append, List.mem_cons] at hz ⊢; rcases hz with h | h <;> simp [h]
    · refine (h3 m cs hm d hd).sub ?_
      intro z hz; simp only [giveRes, List.map_append, List.map_cons, List.mem_append, List.mem_cons] at hz ⊢; rcases hz with h | h <;> simp [h]
  | n, .cold agg c :: rs, x => by
    obtain ⟨h1, h2, h3⟩ := giveRes_in (bs := bs) (n + 64) rs (Tup.tl c (rsCs rs) x)
    obtain ⟨k1, k2⟩ := Cs.giveF_in n c (Tup.hd c (rsCs rs) x)
    refine ⟨fun v hv => ?_, fun m cs hm d hd => ?_, fun m cs hm d hd => ?_⟩
    · simp only [giveRes, List.mem_cons] at hv
      rcases hv with rfl | hv
      · exact (avOf_in k2).sub (by simp +contextual [giveRes])
      · refine (h1 v hv).sub ?_
        intro z hz; simp only [giveRes, List.map_append, List.mem_append] at hz ⊢; rcases hz with h | h <;> simp [h]
    · simp only [giveRes, List.mem_append] at hm
      rcases hm with hm | hm
      · exact absurd hm (k1 m cs)
      · refine (h2 m cs hm d hd).sub ?_
        intro z hz; simp only [giveRes, List.map_append, List.mem_append] at hz ⊢; rcases hz with h | h <;> simp [h]
    · refine (h3 m cs hm d hd).sub ?_
      intro z hz; simp only [giveRes, List.map_append, List.mem_append] at hz ⊢; rcases hz with h | h <;> simp [h]
theorem giveOut_in : ∀ (n : Name) (ps : List PSig) (rs : List RSig) (bs : List Name) (x : Tup (outCs ps rs)), GivenIn bs (giveOut n ps rs bs x)
  | n, [], rs, bs, x => giveRes_in n rs x
  | n, .val _ _ _ :: ps, rs, bs, x => giveOut_in n ps rs bs x
  | n, .ptr c own :: ps, rs, [], x => ⟨by simp [giveOut], by simp [giveOut], by simp [giveOut]⟩
  | n, .ptr c own :: ps, rs, b :: bs, x => by
    obtain ⟨h1, h2, h3⟩ := giveOut_in (n + 64) ps rs bs (Tup.tl c (outCs ps rs) x)
    obtain ⟨k1, k2⟩ := giveC_in own n c (Tup.hd c (outCs ps rs) x)
    refine ⟨fun v hv => ?_, fun m cs hm d hd => ?_, fun m cs hm d hd => ?_⟩
    · refine (h1 v hv).sub ?_
      intro z hz; simp only [giveOut, List.map_append, List.map_cons, List.mem_append, List.mem_cons] at hz ⊢; rcases hz with h | h <;> simp [h]
    · simp only [giveOut, List.mem_append] at hm
      rcases hm with hm | hm
      · exact absurd hm (k1 m cs)
      · refine (h2 m cs hm d hd).sub ?_
        intro z hz; simp only [giveOut, List.map_append, List.map_cons, List.mem_append, List.mem_cons] at hz ⊢; rcases hz with h | h <;> simp [h]
    · simp only [giveOut, List.mem_cons, Prod.mk.injEq] at hm
      rcases hm with ⟨rfl, hb⟩ | hm
      · cases hb
        refine (k2 d hd).sub ?_
        intro z hz; simp only [giveOut, List.map_append, List.map_cons, List.mem_append, List.mem_cons]; simp [hz]
      · refine (h3 m cs hm d hd).sub ?_
        intro z hz; simp only [giveOut, List.map_append, List.map_cons, List.mem_append, List.mem_cons] at hz ⊢; rcases hz with h | h <;> simp [h]
theorem bindArgs_nb {sl : Bool} : ∀ {ps : List PSig} {vs : List AV} {b : Bound (psCs ps)} {L : List Name}, (bindArgs sl ps vs).Runs F b L → NB b.used
  | [], [], b, L, hr => by obtain ⟨rfl, _⟩ := hr; exact NB.nil
  | .val _ c false :: ps, v :: vs, b, L, hr => by
    simp only [bindArgs] at hr
    obtain ⟨_, L5, L6, _, _, hr⟩ := Rd.runs_bind hr
    obtain ⟨a, L1, L2, _, h1, hr⟩ := Rd.runs_bind hr
    obtain ⟨b', L3, L4, _, h2, hr⟩ := Rd.runs_bind hr
    obtain ⟨rfl, _⟩ := hr
    refine NB.append ?_ (bindArgs_nb h2)
    cases sl with
    | true => exact Cs.into_nb h1
    | false =>
      obtain ⟨a', _, _, _, _, h1⟩ := Rd.runs_bind h1
      obtain ⟨rfl, _⟩ := h1
      exact NB.nil
  | .val _ c true :: ps, v :: vs, b, L, hr => by
    simp only [bindArgs] at hr
    obtain ⟨_, L5, L6, _, _, hr⟩ := Rd.runs_bind hr
    obtain ⟨a, L1, L2, _, h1, hr⟩ := Rd.runs_bind hr
    obtain ⟨b', L3, L4, _, h2, hr⟩ := Rd.runs_bind hr
    obtain ⟨rfl, _⟩ := hr
    exact (Cs.into_nb h1).append (bindArgs_nb h2)
  | .ptr c own :: ps, .cell (.box n 0) :: vs, b, L, hr => by
    simp only [bindArgs] at hr
    obtain ⟨L', _, hr⟩ := hr
    dsimp only at hr
    split at hr
    · obtain ⟨a, L1, L2, _, h1, hr⟩ := Rd.runs_bind hr
      obtain ⟨b', L3, L4, _, h2, hr⟩ := Rd.runs_bind hr
      obtain ⟨rfl, _⟩ := hr
      exact NB.append (NB.one (by simp)) ((Cs.intoO_nb h1).append (bindArgs_nb h2))
    · exact hr.elim
end Go.V
namespace Go.V
set_option linter.unusedVariables false
set_option linter.unusedSimpArgs false
variable {G : Env} {uid rid : Nat} {en : List (Name × Entry)} {e : Eff} {L : List Name} {ρ : Operand → AV} {F : Name → Option Entry}

theorem own_in {uid : Name} {c : Cs} {m : Bool} {xs : List c.den} {olds : List (Name × Entry)} (hr : (made (.cell (.own uid)) [(uid, .root c m xs)] olds).Runs (find en) e L) (h : NB olds) : EffIn en e :=
  made_in hr (fun n hn => by simp only [Cell.refs, List.mem_singleton] at hn; subst hn; exact dom_head) (fun n cs hm => by
    simp only [List.mem_append, List.mem_singleton, Prod.mk.injEq] at hm
    rcases hm with ⟨_, hm⟩ | hm
    · cases hm
    · exact absurd hm (h n cs))
theorem box_in {uid : Name} {cs : List Cell} (hr : (made (.cell (.box uid 0)) [(uid, .box cs)] []).Runs (find en) e L) (h : ∀ c ∈ cs, CIn (dom en) c) : EffIn en e :=
  made_in hr (fun n hn => by simp only [Cell.refs, List.mem_singleton] at hn; subst hn; exact dom_head) (fun n cs' hm c hc => by
    simp only [List.append_nil, List.mem_singleton, Prod.mk.injEq] at hm
    obtain ⟨rfl, hm⟩ := hm
    cases hm
    exact (h c hc).mono (dom_more _ _))
theorem intBin_in {op : BinOp} {k : IntKind} {a b : Int} (hr : (intBin op k a b).Runs (find en) e L) : EffIn en e := by
  unfold intBin at hr
  split at hr <;> first
    | exact EffIn.one hr (data_in rfl)
    | (obtain ⟨n, _, hr⟩ := hr; exact EffIn.one hr (data_in rfl))
    | exact hr.elim
theorem effBin_in {t : TInfo} {op : BinOp} {yc : Bool} {x y : AV} (hr : (effBin t op yc x y).Runs (find en) e L) : EffIn en e := by
  unfold effBin at hr
  split at hr
  case h_1 => obtain ⟨n, _, hr⟩ := hr; exact EffIn.one hr (data_in rfl)
  case h_2 => obtain ⟨n, _, hr⟩ := hr; exact EffIn.one hr (data_in rfl)
  case h_3 k a j b _ _ =>
    cases hk : Nat.beq (ikNat j) (ikNat k) with
    | false => rw [hk] at hr; exact hr.elim
    | true => rw [hk] at hr; exact intBin_in hr
  case h_4 => obtain ⟨n, _, hr⟩ := hr; exact EffIn.one hr (data_in rfl)
  case h_5 => exact EffIn.one hr (data_in rfl)
  case h_6 => exact EffIn.one hr (data_in rfl)
  case h_7 =>
    split at hr
    · exact EffIn.one hr (data_in rfl)
    · exact hr.elim
  case h_8 =>
    split at hr
    · exact EffIn.one hr (data_in rfl)
    · exact hr.elim
  case h_9 =>
    split at hr
    · cases yc with
      | true => exact EffIn.one hr (data_in rfl)
      | false => exact hr.elim
    · exact hr.elim
  case h_10 =>
    split at hr
    · cases yc with
      | true => exact EffIn.one hr (data_in rfl)
      | false => exact hr.elim
    · exact hr.elim
  case h_11 =>
    cases ht : t.agg with
    | false => rw [ht] at hr; exact hr.elim
    | true =>
      rw [ht] at hr
      simp only [cond_true] at hr
      split at hr
      · exact EffIn.one hr (data_in rfl)
      · exact hr.elim
  case h_12 =>
    cases ht : t.agg with
    | false => rw [ht] at hr; exact hr.elim
    | true =>
      rw [ht] at hr
      simp only [cond_true] at hr
      split at hr
      · exact EffIn.one hr (data_in rfl)
      · exact hr.elim
  case h_13 => exact hr.elim
theorem effLen_in {x : AV} (hr : (effLen x).Runs (find en) e L) : EffIn en e := by
  unfold effLen at hr
  split at hr
  · exact EffIn.one hr (data_in rfl)
  · exact EffIn.one hr (data_in rfl)
  · exact EffIn.one hr (data_in rfl)
  · obtain ⟨L', _, hr⟩ := hr
    dsimp only at hr
    split at hr
    · exact EffIn.one hr (data_in rfl)
    · exact EffIn.one hr (data_in rfl)
    · exact EffIn.one hr (data_in rfl)
    · exact EffIn.one hr (data_in rfl)
    · exact hr.elim
  · obtain ⟨L', _, hr⟩ := hr
    dsimp only at hr
    split at hr
    · exact EffIn.one hr (data_in rfl)
    · exact hr.elim
  · exact hr.elim
theorem effIndexAddr_in {c : Cs} {x i : AV} (hx : AVIn (dom en) x) (hr : (effIndexAddr c x i).Runs (find en) e L) : EffIn en e := by
  unfold effIndexAddr at hr
  split at hr
  · rename_i f xs _ i
    cases hk : isSame f c with
    | false => rw [hk] at hr; exact hr.elim
    | true => rw [hk] at hr; obtain ⟨v, _, hr⟩ := hr; exact EffIn.one hr (data_in rfl)
  · rename_i r _ i
    obtain ⟨L', _, hr⟩ := hr
    dsimp only at hr
    split at hr
    · rename_i f _ xs _
      cases hk : isSame f c with
      | false => rw [hk] at hr; exact hr.elim
      | true => rw [hk] at hr; obtain ⟨v, _, hr⟩ := hr; exact EffIn.one hr (fun n hn => hx n hn)
    · rename_i f xs _
      cases hk : isSame f c with
      | false => rw [hk] at hr; exact hr.elim
      | true => rw [hk] at hr; obtain ⟨v, _, hr⟩ := hr; exact EffIn.one hr (fun n hn => hx n hn)
    · rename_i f xs _
      cases hk : isSame f c with
      | false => rw [hk] at hr; exact hr.elim
      | true => rw [hk] at hr; obtain ⟨v, _, hr⟩ := hr; exact EffIn.one hr (fun n hn => hx n hn)
    · rename_i f xs _
      cases hk : isSame f c with
      | false => rw [hk] at hr; exact hr.elim
      | true => rw [hk] at hr; obtain ⟨v, _, hr⟩ := hr; exact EffIn.one hr (data_in rfl)
    · exact hr.elim
  · rename_i r lo hi _ i
    obtain ⟨L', _, hr⟩ := hr
    dsimp only at hr
    split at hr
    · rename_i f _ xs _
      cases hk : isSame f c with
      | false => rw [hk] at hr; exact hr.elim
      | true => rw [hk] at hr; obtain ⟨v, _, hr⟩ := hr; exact EffIn.one hr (fun n hn => hx n hn)
    · exact hr.elim
  · exact hr.elim
theorem effLoad_in {t : TInfo} {x : AV} (hb : BoxIn en) (hr : (effLoad t x).Runs (find en) e L) : EffIn en e := by
  unfold effLoad at hr
  split at hr
  · rename_i n off
    obtain ⟨L', _, hr⟩ := hr
    dsimp only at hr
    split at hr
    · rename_i cs hn
      cases hk : Nat.ble (off + t.cs.len) cs.length with
      | false => rw [hk] at hr; exact hr.elim
      | true => rw [hk] at hr; exact whole_in hr fun c hc => hb n cs hn c (mem_sub hc)
    · exact hr.elim
  · rename_i f y off
    cases hk : Nat.ble (off + t.cs.len) f.len with
    | false => rw [hk] at hr; exact hr.elim
    | true => rw [hk] at hr; exact whole_in hr fun c hc => Cs.cells_in f y c (mem_sub hc)
  · rename_i r i off
    obtain ⟨L', _, hr⟩ := hr
    dsimp only at hr
    split at hr
    · rename_i f m xs hn
      cases hk : Nat.ble (off + t.cs.len) f.len with
      | false => rw [hk] at hr; exact hr.elim
      | true => rw [hk] at hr; obtain ⟨y, _, hr⟩ := hr; exact whole_in hr fun c hc => Cs.cells_in f y c (mem_sub hc)
    · rename_i f xs hn
      cases hk : Nat.ble (off + t.cs.len) f.len with
      | false => rw [hk] at hr; exact hr.elim
      | true =>
        rw [hk] at hr; obtain ⟨y, _, hr⟩ := hr
        exact whole_in hr fun c hc => Cs.treeCells_in (by unfold dom; rw [hn]; simp) f 0 y c (mem_sub hc)
    · rename_i f xs hn
      cases hk : Nat.ble (off + t.cs.len) f.len with
      | false => rw [hk] at hr; exact hr.elim
      | true =>
        rw [hk] at hr; obtain ⟨y, _, hr⟩ := hr
        exact whole_in hr fun c hc => Cs.kidCells_in (by unfold dom; rw [hn]; simp) f 0 y c (mem_sub hc)
    · exact hr.elim
  · exact hr.elim
theorem effStore_in {t : TInfo} {x v : AV} (hb : BoxIn en) (hv : AVIn (dom en) v) (hr : (effStore t x v).Runs (find en) e L) : EffIn en e := by
  unfold effStore at hr
  cases hk : (Nat.beq v.cells.length t.cs.len && noUndef v.cells) with
  | false => rw [hk] at hr; exact hr.elim
  | true =>
    rw [hk] at hr
    simp only [cond_true] at hr
    split at hr
    · rename_i n off
      obtain ⟨L', _, hr⟩ := hr
      dsimp only at hr
      split at hr
      · rename_i cs hn
        cases hk : Nat.ble (off + t.cs.len) cs.length with
        | false => rw [hk] at hr; exact hr.elim
        | true =>
          rw [hk] at hr
          obtain ⟨rfl, _⟩ := hr
          refine ⟨data_in rfl, fun m cs' hm c hc => ?_⟩
          simp only [List.mem_singleton, Prod.mk.injEq] at hm
          obtain ⟨rfl, hm⟩ := hm
          cases hm
          rcases mem_setSub hc with h | h
          · exact (hb _ cs hn c h).mono (dom_more _ _)
          · exact (hv.cells c h).mono (dom_more _ _)
      · exact hr.elim
    · rename_i r i off
      obtain ⟨L', _, hr⟩ := hr
      dsimp only at hr
      split at hr
      · rename_i f m xs hn
        cases hk : Nat.ble (off + t.cs.len) f.len with
        | false => rw [hk] at hr; exact hr.elim
        | true =>
          rw [hk] at hr
          obtain ⟨y, _, hr⟩ := hr
          obtain ⟨q, L1, L2, _, hq, hr⟩ := Rd.runs_bind hr
          obtain ⟨_, L3, L4, _, _, hr⟩ := Rd.runs_bind hr
          obtain ⟨rfl, _⟩ := hr
          refine ⟨data_in rfl, fun m' cs' hm c hc => ?_⟩
          simp only [List.mem_cons, Prod.mk.injEq] at hm
          rcases hm with ⟨_, hm⟩ | hm
          · cases hm
          · exact absurd hm (Cs.upd_nb hq m' cs')
      · exact hr.elim
    · exact hr.elim
end Go.V
namespace Go.V
set_option linter.unusedVariables false
set_option linter.unusedSimpArgs false
variable {G : Env} {uid rid : Nat} {en : List (Name × Entry)} {e : Eff} {L : List Name} {ρ : Operand → AV} {F : Name → Option Entry}

theorem cutBind_in {α : Type} {d : Option AV} {h : Option AV} {a b : Option Int} {f : Int → Int → Option α} {g : α → Rd Eff} (hr : ((bound d a).bind fun l => (bound h b).bind fun r => .opt (f l r) g).Runs (find en) e L) (hg : ∀ x L, (g x).Runs (find en) e L → EffIn en e) : EffIn en e := by
  obtain ⟨_, L1, L2, _, _, hr⟩ := Rd.runs_bind hr
  obtain ⟨_, L3, L4, _, _, hr⟩ := Rd.runs_bind hr
  obtain ⟨x, _, hr⟩ := hr
  exact hg x _ hr
theorem effSlice_in {t : TInfo} {x : AV} {lo hi : Option AV} (hx : AVIn (dom en) x) (hr : (effSlice t x lo hi).Runs (find en) e L) : EffIn en e := by
  unfold effSlice at hr
  split at hr
  · exact cutBind_in hr fun x L h => EffIn.one h (data_in rfl)
  · rename_i c f xs _ _
    cases hk : isSame f c with
    | false => rw [hk] at hr; exact hr.elim
    | true => rw [hk] at hr; exact cutBind_in hr fun x L h => EffIn.one h (data_in rfl)
  · rename_i c r _ _
    obtain ⟨L', _, hr⟩ := hr
    dsimp only at hr
    split at hr
    · rename_i f _ xs _
      cases hk : isSame f c with
      | false => rw [hk] at hr; exact hr.elim
      | true => rw [hk] at hr; exact cutBind_in hr fun x L h => EffIn.one h (fun n hn => hx n hn)
    · rename_i f xs _
      cases hk : isSame f c with
      | false => rw [hk] at hr; exact hr.elim
      | true => rw [hk] at hr; exact cutBind_in hr fun x L h => EffIn.one h (data_in rfl)
    · exact hr.elim
  · exact hr.elim
theorem effConvert_in {src dst : TInfo} {sb db : Bool} {x : AV} (hr : (effConvert uid src sb dst db x).Runs (find en) e L) : EffIn en e := by
  unfold effConvert at hr
  split at hr
  · exact EffIn.one hr (data_in rfl)
  · exact EffIn.one hr (data_in rfl)
  · split at hr
    · cases sb with
      | true => obtain ⟨_, L1, L2, _, _, hr⟩ := Rd.runs_bind hr; exact EffIn.one hr (data_in rfl)
      | false => exact hr.elim
    · exact hr.elim
  · split at hr
    · cases db with
      | true => exact own_in hr NB.nil
      | false => exact hr.elim
    · exact hr.elim
  · exact hr.elim
theorem effBytes_in {r : Name} (hr : (effBytes uid r).Runs (find en) e L) : EffIn en e := by
  obtain ⟨L', _, hr⟩ := hr
  dsimp only at hr
  split at hr
  · split at hr
    · exact own_in hr (by intro n cs h; simp at h)
    · exact hr.elim
  · exact hr.elim
theorem effAppend_in {c : Cs} {x y : AV} (hr : (effAppend uid c x y).Runs (find en) e L) : EffIn en e := by
  unfold effAppend at hr
  split at hr
  · split at hr
    · unfold effJoin at hr
      obtain ⟨L', _, hr⟩ := hr
      dsimp only at hr
      split at hr
      · split at hr
        · obtain ⟨zs, _, hr⟩ := hr
          exact own_in hr (by intro n cs h; simp at h)
        · exact hr.elim
      · exact hr.elim
    obtain ⟨A, L1, L2, _, hA, hr⟩ := Rd.runs_bind hr
    obtain ⟨B, L3, L4, _, hB, hr⟩ := Rd.runs_bind hr
    obtain ⟨_, L5, L6, _, hd, hr⟩ := Rd.runs_bind hr
    split at hr
    · obtain ⟨zs, _, hr⟩ := hr
      exact own_in hr ((dstL_nb hA).append (srcL_nb hB))
    · exact hr.elim
  · exact hr.elim
theorem effBuildSlice_in {c : Cs} {n : Nat} {parts : List (Nat × AV)} (hr : (effBuildSlice uid c n parts).Runs (find en) e L) : EffIn en e := by
  unfold effBuildSlice at hr
  cases hk : (Nat.ble (n * c.len) 16777216 && partsOk n 0 parts && parts.all fun p => Nat.beq p.2.cells.length c.len && noUndef p.2.cells) with
  | false => rw [hk] at hr; exact hr.elim
  | true =>
    rw [hk] at hr
    obtain ⟨y, L1, L2, _, h1, hr⟩ := Rd.runs_bind hr
    obtain ⟨_, L3, L4, _, hd, hr⟩ := Rd.runs_bind hr
    exact own_in hr (rowOf_nb h1)
theorem effCall_in {Fn' : Fn} {args : List AV} (hr : (effCall uid Fn' args).Runs (find en) e L) : EffIn en e := by
  unfold effCall at hr
  obtain ⟨b, L1, L2, _, h1, hr⟩ := Rd.runs_bind hr
  obtain ⟨_, L3, L4, _, _, hr⟩ := Rd.runs_bind hr
  obtain ⟨r, _, hr⟩ := hr
  have hnb := bindArgs_nb h1
  obtain ⟨k1, k2, k3⟩ := giveOut_in uid Fn'.ps Fn'.rs b.ptrs r
  have hsub : ∀ n, dom ((giveOut uid Fn'.ps Fn'.rs b.ptrs r).upds ++ (giveOut uid Fn'.ps Fn'.rs b.ptrs r).news) n → dom ((giveOut uid Fn'.ps Fn'.rs b.ptrs r).news ++ ((giveOut uid Fn'.ps Fn'.rs b.ptrs r).upds ++ b.used) ++ en) n := fun n hn => by
    rw [dom_iff] at hn ⊢
    simp only [List.map_append, List.mem_append] at hn ⊢
    rcases hn with h | h <;> simp [h]
  refine made_in hr ?_ (fun n cs hm c hc => ?_)
  · have hv : ∀ v ∈ (giveOut uid Fn'.ps Fn'.rs b.ptrs r).vals, AVIn0 (dom ((giveOut uid Fn'.ps Fn'.rs b.ptrs r).news ++ ((giveOut uid Fn'.ps Fn'.rs b.ptrs r).upds ++ b.used) ++ en)) v := fun v hv => (k1 v hv).mono hsub
    split
    · rename_i v hq
      have := hv v (by rw [hq]; simp)
      cases v with
      | cell c => exact this
      | agg cs => exact this
      | tup _ => exact this.elim
    · exact hv
  · simp only [List.mem_append] at hm
    rcases hm with h | h | h
    · exact (k2 n cs h c hc).mono hsub
    · exact (k3 n cs h c hc).mono hsub
    · exact absurd h (hnb n cs)
end Go.V
namespace Go.V
set_option linter.unusedVariables false
set_option linter.unusedSimpArgs false
variable {G : Env} {uid rid : Nat} {en : List (Name × Entry)} {e : Eff} {L : List Name} {ρ : Operand → AV} {F : Name → Option Entry}

theorem capsOf_in {D : Name → Prop} : ∀ {vs : List AV} {ns : List Name}, capsOf vs = some ns → (∀ v ∈ vs, AVIn D v) → ∀ n ∈ ns, D n
  | [], ns, h, _ => by simp [capsOf] at h; subst h; simp
  | v :: vs, ns, h, hv => by
    unfold capsOf at h
    split at h
    · cases h; simp
    · rename_i n l heq
      cases heq
      cases hk : capsOf vs with
      | none => rw [hk] at h; cases h
      | some ms =>
        rw [hk] at h; cases h
        intro m hm
        rcases List.mem_cons.1 hm with rfl | hm
        · exact hv _ List.mem_cons_self m (by simp [Cell.refs])
        · exact capsOf_in hk (fun v hv' => hv v (List.mem_cons_of_mem _ hv')) m hm
    · cases h
theorem minmax_in {f : Int → Int → Int} {vs : List AV} (hr : (minmax f vs).Runs (find en) e L) : EffIn en e := by
  unfold minmax at hr
  split at hr
  · rename_i k a j b
    cases hk : Nat.beq (ikNat j) (ikNat k) with
    | false => rw [hk] at hr; exact hr.elim
    | true => rw [hk] at hr; exact EffIn.one hr (data_in rfl)
  · exact hr.elim
theorem eff_in (hρ : ∀ x, AVIn (dom en) (ρ x)) (hb : BoxIn en) {op : Op} (hr : (eff G uid ρ op).Runs (find en) e L) : EffIn en e := by
  unfold eff at hr
  split at hr
  case h_1 => obtain ⟨rfl, _⟩ := hr; exact EffIn.pure (hρ _)
  case h_2 => obtain ⟨rfl, _⟩ := hr; exact EffIn.pure (hρ _)
  case h_3 =>
    split at hr
    · exact EffIn.one hr (data_in rfl)
    · exact hr.elim
  case h_4 =>
    obtain ⟨i, _, hr⟩ := ti_some hr
    exact box_in hr (Cs.zero_in _)
  case h_5 x =>
    replace hr := ti_some hr
    obtain ⟨i, _, hr⟩ := hr
    cases hk : (Nat.beq (ρ x).cells.length i.cs.len && noUndef (ρ x).cells) with
    | false => rw [hk] at hr; exact hr.elim
    | true => rw [hk] at hr; exact box_in hr (hρ x).cells
  case h_6 t parts =>
    replace hr := ti_some hr
    obtain ⟨i, _, hr⟩ := hr
    cases ha : i.agg with
    | false => rw [ha] at hr; exact hr.elim
    | true =>
      rw [ha] at hr
      simp only [cond_true] at hr
      split at hr
      · rename_i cs hc
        obtain ⟨rfl, _⟩ := hr
        exact EffIn.pure (buildCells_in hc (Cs.zero_in _) fun p hp => by obtain ⟨q, _, rfl⟩ := List.mem_map.1 hp; exact hρ _)
      · exact hr.elim
  case h_7 =>
    replace hr := ti_some hr
    obtain ⟨i, _, hr⟩ := hr
    replace hr := slOf_some hr
    obtain ⟨_, _, _, hr⟩ := hr
    replace hr := ti_some hr
    obtain ⟨j, _, hr⟩ := hr
    exact effBuildSlice_in hr
  case h_8 => replace hr := ti_some hr; obtain ⟨i, _, hr⟩ := hr; exact effLoad_in hb hr
  case h_9 => replace hr := ti_some hr; obtain ⟨i, _, hr⟩ := hr; exact effStore_in hb (hρ _) hr
  case h_10 x =>
    have hx := hρ x
    split at hr
    · rename_i e1; rw [e1] at hx; exact EffIn.one hr hx
    · rename_i e1; rw [e1] at hx; exact EffIn.one hr hx
    · exact EffIn.one hr (data_in rfl)
    · exact hr.elim
  case h_11 => replace hr := ti_some hr; obtain ⟨i, _, hr⟩ := hr; exact effBin_in hr
  case h_12 =>
    split at hr
    · exact EffIn.one hr (data_in rfl)
    · exact hr.elim
  case h_13 =>
    split at hr
    · exact EffIn.one hr (data_in rfl)
    · exact hr.elim
  case h_14 =>
    replace hr := ti_some hr
    obtain ⟨i, _, hr⟩ := hr
    replace hr := ti_some hr
    obtain ⟨j, _, hr⟩ := hr
    split at hr
    · rename_i r _
      cases hk : (Nat.beq _ _ && isByte G j.elem) with
      | false => rw [hk] at hr; exact hr.elim
      | true => rw [hk] at hr; exact effBytes_in hr
    · exact effConvert_in hr
  case h_15 n m =>
    replace hr := ti_some hr
    obtain ⟨i, _, hr⟩ := hr
    replace hr := slOf_some hr
    obtain ⟨_, _, _, hr⟩ := hr
    replace hr := ti_some hr
    obtain ⟨j, _, hr⟩ := hr
    cases hk : Nat.beq n m with
    | false => rw [hk] at hr; exact hr.elim
    | true =>
      rw [hk] at hr
      simp only [cond_true] at hr
      split at hr
      · obtain ⟨l, _, hr⟩ := hr; exact own_in hr NB.nil
      · exact hr.elim
  case h_16 => replace hr := ti_some hr; obtain ⟨i, _, hr⟩ := hr; exact effSlice_in (hρ _) hr
  case h_17 s x f =>
    have hx := hρ x
    replace hr := ti_some hr
    obtain ⟨i, _, hr⟩ := hr
    cases ha : i.agg with
    | false => rw [ha] at hr; exact hr.elim
    | true =>
      rw [ha] at hr
      simp only [cond_true] at hr
      split at hr
      · rename_i e1; rw [e1] at hx; exact EffIn.one hr hx
      · rename_i e1; rw [e1] at hx; exact EffIn.one hr hx
      · exact EffIn.one hr (data_in rfl)
      · exact hr.elim
  case h_18 =>
    replace hr := ti_some hr
    obtain ⟨i, _, hr⟩ := hr
    split at hr
    · exact effIndexAddr_in (hρ _) hr
    · exact hr.elim
  case h_19 =>
    replace hr := ti_some hr
    obtain ⟨i, _, hr⟩ := hr
    split at hr
    · obtain ⟨b, _, hr⟩ := hr; exact EffIn.one hr (data_in rfl)
    · exact hr.elim
  case h_20 x i =>
    have hx := hρ x
    split at hr
    · rename_i vs e1
      rw [e1] at hx
      split at hr
      · rename_i v hv
        obtain ⟨rfl, _⟩ := hr
        have := hx v (List.mem_of_getElem? hv)
        refine EffIn.pure ?_
        cases v with
        | cell c => exact this
        | agg cs => exact this
        | tup _ => exact this.elim
      · exact hr.elim
    · exact hr.elim
  case h_21 =>
    split at hr
    · rename_i ns hns
      exact EffIn.one hr (capsOf_in hns fun v hv => by obtain ⟨x, _, rfl⟩ := List.mem_map.1 hv; exact hρ x)
    · exact hr.elim
  case h_22 x t =>
    replace hr := ti_some hr
    obtain ⟨i, _, hr⟩ := hr
    cases hk : lenOk i (ρ x) with
    | false => rw [hk] at hr; exact hr.elim
    | true => rw [hk] at hr; exact effLen_in hr
  case h_23 =>
    replace hr := ti_some hr
    obtain ⟨i, _, hr⟩ := hr
    replace hr := slOf_some hr
    obtain ⟨_, _, _, hr⟩ := hr
    replace hr := ti_some hr
    obtain ⟨i', _, hr⟩ := hr
    replace hr := slOf_some hr
    obtain ⟨_, _, _, hr⟩ := hr
    replace hr := ti_some hr
    obtain ⟨j, _, hr⟩ := hr
    exact effAppend_in hr
  case h_24 => exact minmax_in hr
  case h_25 => exact minmax_in hr
  case h_26 =>
    split at hr
    · split at hr
      · cases ht : G.trees with
        | false => rw [ht] at hr; exact effCall_in hr
        | true =>
          rw [ht] at hr
          exact hr.elim
      · exact hr.elim
    · exact hr.elim
  all_goals exact hr.elim
theorem effOp_eq {op : Op} (h : ∀ c a b, op ≠ .pick c a b) : effOp G uid ρ op = eff G uid ρ op := by
  cases op <;> first | rfl | exact absurd rfl (h _ _ _)
theorem effPick_in {c x y : AV} (hx : AVIn (dom en) x) (hy : AVIn (dom en) y) (hr : (effPick c x y).Runs (find en) e L) : EffIn en e := by
  unfold effPick at hr
  split at hr
  · exact EffIn.one hr (data_in rfl)
  · cases (by assumption : Bool) with
    | true => obtain ⟨rfl, _⟩ := hr; exact EffIn.pure hx
    | false => obtain ⟨rfl, _⟩ := hr; exact EffIn.pure hy
  · exact hr.elim
theorem effOp_in (hρ : ∀ x, AVIn (dom en) (ρ x)) (hb : BoxIn en) {op : Op} (hr : (effOp G uid ρ op).Runs (find en) e L) : EffIn en e := by
  by_cases h : ∃ c a b, op = .pick c a b
  · obtain ⟨c, a, b, rfl⟩ := h
    exact effPick_in (hρ a) (hρ b) hr
  · rw [effOp_eq fun c a b he => h ⟨c, a, b, he⟩] at hr
    exact eff_in hρ hb hr
structure Closed (S : St) : Prop where
  tmp : ∀ t, AVIn (dom S.en) (S.tmp t)
  box : BoxIn S.en
theorem Closed.eval {S : St} (h : Closed S) (x : Operand) : AVIn (dom S.en) (S.eval x) := by
  cases x with
  | tmp t => exact h.tmp t
  | const v => exact const_in v
  | global _ => exact data_in rfl
  | func _ => exact data_in rfl
theorem find_mem_pair {α : Type} {l : List (Nat × α)} {n : Nat} {x : α} (h : find l n = some x) : (n, x) ∈ l := find_mem h
theorem Closed.put {S : St} (h : Closed S) (dst : Option Tmp) {e : Eff} (he : EffIn S.en e) : Closed (S.put dst e) := by
  refine ⟨fun t => ?_, fun n cs hn c hc => ?_⟩
  · rw [St.tmp_put]
    split
    · exact he.val
    · exact (h.tmp t).mono (dom_more _ _)
  · rw [St.en_put] at hn ⊢
    rw [find_append] at hn
    cases hf : find e.ents n with
    | some x => rw [hf] at hn; cases hn; exact he.box n cs (find_mem hf) c hc
    | none => rw [hf] at hn; exact (h.box n cs hn c hc).mono (dom_more _ _)
end Go.V
namespace Go.V
set_option linter.unusedVariables false
set_option linter.unusedSimpArgs false
variable {G : Env} {uid rid : Nat} {ops : List Oper} {B : List Nat}

namespace Rd
theorem runL_some {α A : Type} {S : Name → Option Entry} {k : α → List Name → Option A} {r : A} : ∀ {x : Rd α} {L0 : List Name}, x.runL S L0 k = some r → ∃ a L, x.Runs S a L ∧ k a (L.reverse ++ L0) = some r
  | ret a, L0, h => ⟨a, [], ⟨rfl, rfl⟩, by simpa [runL] using h⟩
  | fail, L0, h => by simp [runL] at h
  | get n f, L0, h => by
    simp only [runL] at h
    obtain ⟨a, L, h1, h2⟩ := runL_some h
    exact ⟨a, n :: L, ⟨L, rfl, h1⟩, by simpa using h2⟩
  | opt o f, L0, h => by
    simp only [runL] at h
    cases o with
    | none => simp at h
    | some b =>
      simp only [Option.bind_some] at h
      obtain ⟨a, L, h1, h2⟩ := runL_some h
      exact ⟨a, L, ⟨b, rfl, h1⟩, h2⟩
end Rd
structure Sub (Z : List Tmp) (FN : List Name) (S S1 : St) : Prop where
  tm : ∀ t, S.tmp t = S1.tmp t ∨ (t ∈ Z ∧ S.tmp t = .undef)
  en : ∀ n, n ∉ FN → find S.en n = find S1.en n
  no : ∀ n ∈ FN, find S.en n = none
structure LogInd (rx ry : Res) : Prop where
  wr : ∀ n ∈ resNames rx, n ∉ resReads ry
  rw : ∀ n ∈ resNames ry, n ∉ resReads rx
  ww : ∀ n ∈ resNames rx, n ∉ resNames ry
def PO (B : List Nat) (p q : Ev) : Prop := hasBit (bitsOf B q.1) p.1 = true ∨ LogInd p.2.2 q.2.2
structure Logged (rid : Nat) (B : List Nat) (grp : Bool) (p : Ev) : Prop where
  rd : ∀ n ∈ resReads p.2.2, ownOk rid (bitsOf B p.1) p.1 n = true
  wr : ∀ n ∈ resNames p.2.2, ownOk rid (bitsOf B p.1) p.1 n = true
  own : grp = true → ∀ n ∈ resNames p.2.2, mine rid p.1 n = true
def InLog (rid : Nat) (B : List Nat) (acc : Logs) (p : Ev) : Prop :=
  (resReads p.2.2 = [] ∧ resNames p.2.2 = []) ∨
  ∃ q ∈ acc, q.1 = p.1 ∧ ((q.2 = none ∧ Logged rid B true p) ∨ ∃ L W, q.2 = some (L, W) ∧ (∀ n ∈ resReads p.2.2, n ∈ L) ∧ ∀ n ∈ resNames p.2.2, n ∈ W)
theorem InLog.mono {acc acc' : Logs} (h : ∀ q ∈ acc, q ∈ acc') {p : Ev} (k : InLog rid B acc p) : InLog rid B acc' p := by
  rcases k with k | ⟨q, hq, k⟩
  · exact .inl k
  · exact .inr ⟨q, h q hq, k⟩
theorem Logged.loose {p : Ev} {grp : Bool} (h : Logged rid B true p) : Logged rid B grp p := ⟨h.rd, h.wr, fun _ => h.own rfl⟩
theorem LogInd.of_idle_right {rx ry : Res} (h1 : resReads ry = []) (h2 : resNames ry = []) : LogInd rx ry := ⟨by simp [h1], by simp [h2], by simp [h2]⟩
theorem LogInd.of_idle_left {rx ry : Res} (h1 : resReads rx = []) (h2 : resNames rx = []) : LogInd rx ry := ⟨by simp [h2], by simp [h1], by simp [h2]⟩
theorem beqB_eq {a b : Bool} (h : beqB a b = true) : a = b := by cases a <;> cases b <;> simp [beqB] at h ⊢
theorem beqB_ne {a b : Bool} (h : beqB a b = false) : a = !b := by cases a <;> cases b <;> simp [beqB] at h ⊢
theorem mine_eq {i : Nat} {n : Name} (h : mine rid i n = true) : n / 1024 = rid * 256 + i + 1 := Nat.eq_of_beq_eq_true h
theorem own_mine {b k i : Nat} {n : Name} (h : ownOk rid b k n = true) (hm : mine rid i n = true) (hi : i < 256) : i = k ∨ hasBit b i = true := by
  have hq := mine_eq hm
  unfold ownOk at h
  simp only [hq] at h
  have h1 : Nat.ble (rid * 256 + 1) (rid * 256 + i + 1) = true := Nat.ble_eq_true_of_le (by omega)
  have h2 : Nat.ble (rid * 256 + i + 1) (rid * 256 + 256) = true := Nat.ble_eq_true_of_le (by omega)
  rw [h1, h2] at h
  simp only [Bool.and_self, cond_true, Bool.or_eq_true] at h
  rw [show rid * 256 + i + 1 - (rid * 256 + 1) = i by omega] at h
  exact h.imp Nat.eq_of_beq_eq_true id
theorem apartL_spec {l m : List Name} (h : apartL l m = true) : ∀ n ∈ l, n ∉ m := by
  intro n hn hm
  have := List.all_eq_true.1 (List.all_eq_true.1 h n hn) n hm
  simp at this
theorem looks_at {o : Oper} {t : Tmp} (h : Looks ops o t) : t ∈ o.looksAt ops.toArray := by
  rcases h with h | ⟨j, want, hg, hd⟩
  · exact List.mem_append_left _ (List.mem_filterMap.2 ⟨.tmp t, by simpa using h, rfl⟩)
  · refine List.mem_append_right _ ?_
    rw [hg]
    unfold dstOf at hd
    cases ho : ops[j]? with
    | none => rw [ho] at hd; cases hd
    | some p => rw [ho] at hd; simp [ho, hd]
theorem Tr.tmp : ∀ {E : List Ev} {S S' : St} {t : Tmp}, Tr G rid ops E S S' → (∀ p ∈ E, p.2.1.dst ≠ some t) → S'.tmp t = S.tmp t
  | [], S, S', t, h, _ => (h.tm t).symm
  | (i, o, r) :: E, S, S', t, h, hd => by
    rw [Tr.tmp h.2 fun p hp => hd p (List.mem_cons_of_mem _ hp)]
    exact St.tmp_act S o r t (hd (i, o, r) List.mem_cons_self)
theorem Tr.en : ∀ {E : List Ev} {S S' : St} {n : Name}, Tr G rid ops E S S' → (∀ p ∈ E, n ∉ resNames p.2.2) → find S'.en n = find S.en n
  | [], S, S', n, h, _ => ((show Same S S' from h).en n).symm
  | (i, o, r) :: E, S, S', n, h, hd => by
    rw [Tr.en h.2 fun p hp => hd p (List.mem_cons_of_mem _ hp)]
    exact St.en_act S o r n (hd (i, o, r) List.mem_cons_self)
theorem Tr.append : ∀ {E F : List Ev} {S S1 S' : St}, Tr G rid ops E S S1 → Tr G rid ops F S1 S' → Tr G rid ops (E ++ F) S S'
  | [], F, S, S1, S', h, k => k.same h.symm
  | _ :: E, F, S, S1, S', h, k => ⟨h.1, Tr.append h.2 k⟩
structure Out {A : Type} (G : Env) (rid : Nat) (ops : List Oper) (B : List Nat) (grp : Bool) (kn : List (Nat × Bool)) (l : List (Nat × Oper)) (S S1 : St) (D : List Ev) (k : St → Logs → Option A) (r : A) (acc : Logs) : Prop where
  out : ∃ (E : List Ev) (S1' S' : St) (acc' : Logs) (Z' : List Tmp) (FN' : List Name) (nw : List (Name × Entry)), k S' acc' = some r ∧ Tr G rid ops E S1 S1' ∧ E.map (fun p => (p.1, p.2.1)) = l ∧ (Sub Z' FN' S' S1' ∧ Closed S') ∧
    (∀ p ∈ D ++ E, InLog rid B acc' p) ∧ (∀ n ∈ FN', ∃ q ∈ acc', q.2 = none ∧ mine rid q.1 n = true) ∧ (∀ p ∈ E, Logged rid B grp p) ∧ E.Pairwise (PO B) ∧ (∀ p ∈ D, ∀ q ∈ E, PO B p q) ∧
    (∀ p ∈ E, unknown kn p.2.1.dst = true) ∧ (S'.en = nw ++ S.en ∧ ∃ nt, S'.tm = nt ++ S.tm) ∧ (∀ p ∈ E, ∀ n ∈ resNames p.2.2, n ∈ nw.map (·.1) ∨ find S.en n = none)
structure Inp (rid : Nat) (ops : List Oper) (B : List Nat) (kn : List (Nat × Bool)) (l : List (Nat × Oper)) (S S1 : St) (D : List Ev) (acc : Logs) (Z : List Tmp) (FN : List Name) : Prop where
  sub : Sub Z FN S S1
  known : ∀ t c, find kn t = some c → S1.tmp t = .cell (.bool c)
  log : ∀ p ∈ D, InLog rid B acc p
  fn : ∀ n ∈ FN, ∃ q ∈ acc, q.2 = none ∧ mine rid q.1 n = true
  here : ∀ p ∈ l, ops[p.1]? = some p.2
  read : ∀ p ∈ l, ∀ t ∈ Z, ¬ Looks ops p.2 t
  asc : ∀ p ∈ D, ∀ q ∈ l, p.1 < q.1
  asc' : l.Pairwise fun p q => p.1 < q.1
  closed : Closed S
structure Bits (ops : List Oper) (B : List Nat) : Prop where
  lt : ∀ k i, k ≤ i → hasBit (bitsOf B k) i = false
  len : ops.length < 256
theorem unknown_find {kn : List (Nat × Bool)} {d : Tmp} {c : Bool} (h : unknown kn (some d) = true) : find kn d ≠ some c := by
  intro hf; simp [unknown, hf] at h
theorem tm_more {l m n : List (Nat × AV)} (h : ∃ a, l = a ++ m) (k : ∃ a, m = a ++ n) : ∃ a, l = a ++ n := by
  obtain ⟨a, rfl⟩ := h; obtain ⟨b, rfl⟩ := k; exact ⟨a ++ b, (List.append_assoc _ _ _).symm⟩
theorem put_tm (S : St) (d : Option Tmp) (e : Eff) : ∃ a, (S.put d e).tm = a ++ S.tm := by
  cases d with
  | none => exact ⟨[], rfl⟩
  | some d => exact ⟨[(d, e.val)], rfl⟩
theorem Out.step {A : Type} {grp : Bool} {kn : List (Nat × Bool)} {i : Nat} {o : Oper} {l : List (Nat × Oper)} {S S1 Sn : St} {D : List Ev} {k : St → Logs → Option A} {r : A} {acc acc1 : Logs} {res : Res}
    (hs : Step G rid ops S1 i o res) (hlog : Logged rid B grp (i, o, res)) (hpo : ∀ p ∈ D, PO B p (i, o, res)) (hu : unknown kn o.dst = true) {nw0 : List (Name × Entry)} (hen : Sn.en = nw0 ++ S.en) (htm : ∃ nt, Sn.tm = nt ++ S.tm) (hnw : ∀ n ∈ resNames res, n ∈ nw0.map (·.1))
    (h : Out G rid ops B grp kn l Sn (S1.act o res) (D ++ [(i, o, res)]) k r acc1) : Out G rid ops B grp kn ((i, o) :: l) S S1 D k r acc := by
  obtain ⟨E, S1', S', acc', Z', FN', nw, h1, h2, h3, h4, h5, h6, h7, h8, h9, h10, h11, h12⟩ := h.out
  refine ⟨(i, o, res) :: E, S1', S', acc', Z', FN', nw ++ nw0, h1, ⟨hs, h2⟩, by simp [h3], h4, by simpa using h5, h6, ?_, ?_, ?_, ?_, ⟨by rw [h11.1, hen, List.append_assoc], tm_more h11.2 htm⟩, ?_⟩
  · intro p hp; rcases List.mem_cons.1 hp with rfl | hp
    · exact hlog
    · exact h7 p hp
  · exact List.pairwise_cons.2 ⟨fun q hq => h9 _ (by simp) q hq, h8⟩
  · intro p hp q hq
    rcases List.mem_cons.1 hq with rfl | hq
    · exact hpo p hp
    · exact h9 p (by simp [hp]) q hq
  · intro p hp; rcases List.mem_cons.1 hp with rfl | hp
    · exact hu
    · exact h10 p hp
  · intro p hp n hn
    rcases List.mem_cons.1 hp with rfl | hp
    · exact .inl (by simp only [List.map_append, List.mem_append]; exact .inr (hnw n hn))
    · rcases h12 p hp n hn with h | h
      · exact .inl (by simp only [List.map_append, List.mem_append]; exact .inl h)
      · rw [hen, find_append] at h
        cases hf : find nw0 n with
        | some x => rw [hf] at h; cases h
        | none => rw [hf] at h; exact .inr h
end Go.V
namespace Go.V
set_option linter.unusedVariables false
set_option linter.unusedSimpArgs false
variable {G : Env} {uid rid : Nat} {ops : List Oper} {B : List Nat}

theorem Inp.next {kn : List (Nat × Bool)} {i : Nat} {o : Oper} {l : List (Nat × Oper)} {S S1 Sn : St} {D : List Ev} {acc acc' : Logs} {Z : List Tmp} {FN : List Name} (h : Inp rid ops B kn ((i, o) :: l) S S1 D acc Z FN) {res : Res}
    (hsub : Sub Z FN Sn (S1.act o res)) (hcl : Closed Sn) (hu : unknown kn o.dst = true) (hacc : ∀ q ∈ acc, q ∈ acc') (hlog : InLog rid B acc' (i, o, res)) : Inp rid ops B kn l Sn (S1.act o res) (D ++ [(i, o, res)]) acc' Z FN := by
  refine ⟨hsub, fun t c hf => ?_, fun p hp => ?_, fun n hn => ?_, fun p hp => h.here p (List.mem_cons_of_mem _ hp), fun p hp => h.read p (List.mem_cons_of_mem _ hp), fun p hp q hq => ?_, (List.pairwise_cons.1 h.asc').2, hcl⟩
  · rw [St.tmp_act]
    · exact h.known t c hf
    · intro hd; rw [hd] at hu; exact unknown_find hu hf
  · rcases List.mem_append.1 hp with hp | hp
    · exact (h.log p hp).mono hacc
    · rw [List.mem_singleton.1 hp]; exact hlog
  · obtain ⟨q, hq, k⟩ := h.fn n hn; exact ⟨q, hacc q hq, k⟩
  · rcases List.mem_append.1 hp with hp | hp
    · exact h.asc p hp q (List.mem_cons_of_mem _ hq)
    · rw [List.mem_singleton.1 hp]; exact (List.pairwise_cons.1 h.asc').1 q hq
theorem Sub.act {Z : List Tmp} {FN : List Name} {S S1 : St} (h : Sub Z FN S S1) (o : Oper) (e : Eff) (L : List Name) (hn : ∀ n ∈ e.ents.map (·.1), n ∉ FN) : Sub Z FN (S.put o.dst e) (S1.act o (some (e, L))) := by
  refine ⟨fun t => ?_, fun n hnF => ?_, fun n hnF => ?_⟩
  · simp only [St.act, St.tmp_put]
    by_cases hd : o.dst = some t
    · simp [hd]
    · simp only [if_neg hd]; exact h.tm t
  · simp only [St.act, St.en_put, find_append, h.en n hnF]
  · rw [St.en_put, find_skip fun hm => hn n hm hnF]; exact h.no n hnF
theorem Sub.skip {Z : List Tmp} {FN : List Name} {S S1 : St} (h : Sub Z FN S S1) (o : Oper) : Sub Z FN (S.put o.dst ⟨.cell .void, []⟩) (S1.act o none) := by
  refine ⟨fun t => ?_, fun n hnF => h.en n hnF, fun n hnF => h.no n hnF⟩
  simp only [St.act, St.tmp_put]
  by_cases hd : o.dst = some t
  · simp [hd]
  · simp only [if_neg hd]; exact h.tm t
theorem okStep_po (hB : Bits ops B) {i : Nat} {o : Oper} {e : Eff} {L : List Name} {acc : Logs} {grp : Bool} (hi : i < ops.length) (hk : okStep rid (bitsOf B i) i grp L (e.ents.map (·.1)) acc = true) {D : List Ev} (hD : ∀ p ∈ D, InLog rid B acc p) (hasc : ∀ p ∈ D, p.1 < i) {L' : List Name} (hL : ∀ n ∈ L', n ∈ L) :
    Logged rid B grp (i, o, some (e, L')) ∧ (∀ p ∈ D, PO B p (i, o, some (e, L'))) ∧ ∀ q ∈ acc, q.2 = none → (∀ n ∈ L, mine rid q.1 n = false) ∧ ∀ n ∈ e.ents.map (·.1), mine rid q.1 n = false := by
  simp only [okStep, Bool.and_eq_true, List.all_eq_true] at hk
  obtain ⟨h1, h2, h3, h4⟩ := hk
  have hown : ∀ q ∈ acc, q.2 = none → (∀ n ∈ L, mine rid q.1 n = false) ∧ ∀ n ∈ e.ents.map (·.1), mine rid q.1 n = false := by
    intro q hq hn
    have := h4 q hq
    rw [hn] at this
    simp only [Bool.and_eq_true, List.all_eq_true, Bool.not_eq_true'] at this
    exact ⟨this.1, this.2.1⟩
  refine ⟨⟨fun n hn => h1 n (hL n hn), h2, fun hg => ?_⟩, fun p hp => ?_, hown⟩
  · rw [hg] at h3
    simp only [Bool.not_true, Bool.false_or, List.all_eq_true] at h3
    exact h3
  · rcases hD p hp with ⟨k1, k2⟩ | ⟨q, hq, hqi, k⟩
    · exact .inr (LogInd.of_idle_left k1 k2)
    · have hq4 := h4 q hq
      rcases k with ⟨hn, hlog⟩ | ⟨Lq, Wq, hn, k1, k2⟩
      · obtain ⟨o1, o2⟩ := hown q hq hn
        rw [hn] at hq4
        simp only [Bool.and_eq_true, Bool.or_eq_true, List.all_eq_true] at hq4
        rcases hq4.2.2 with hb | hm
        · exact .inl (by rw [← hqi]; exact hb)
        · refine .inr ⟨fun n hn hr => ?_, fun n hn hr => ?_, fun n hn hr => ?_⟩
          · have := o1 n (hL n hr); rw [hqi, hlog.own rfl n hn] at this; cases this
          · rcases own_mine (hlog.rd n hr) (hm n hn) (by have := hB.len; omega) with he | hb
            · have := hasc p hp; omega
            · rw [hB.lt p.1 i (Nat.le_of_lt (hasc p hp))] at hb; cases hb
          · have := o2 n hr; rw [hqi, hlog.own rfl n hn] at this; cases this
      · rw [hn] at hq4
        simp only [Bool.or_eq_true, Bool.and_eq_true] at hq4
        rcases hq4 with hb | ⟨a1, a2, a3⟩
        · exact .inl (by rw [← hqi]; exact hb)
        · exact .inr ⟨fun n hn hr => apartL_spec a2 n (k2 n hn) (hL n hr), fun n hn hr => apartL_spec a1 n hn (k1 n hr), fun n hn hr => apartL_spec a3 n hr (k2 n hn)⟩
theorem St.eval_sub {Z : List Tmp} {FN : List Name} {S S1 : St} (h : Sub Z FN S S1) {o : Oper} (hr : ∀ t ∈ Z, ¬ Looks ops o t) : ∀ x ∈ o.op.operands, S.eval x = S1.eval x := fun x hx => by
  cases x with
  | tmp t => exact (h.tm t).resolve_right fun k => hr t k.1 (.inl hx)
  | _ => rfl
def IH (G : Env) (rid : Nat) (ops : List Oper) (B : List Nat) (f : Nat) : Prop :=
  ∀ {A : Type} (grp : Bool) (kn : List (Nat × Bool)) (l : List (Nat × Oper)) (S : St) (acc : Logs) (k : St → Logs → Option A) (r : A) (S1 : St) (Z : List Tmp) (FN : List Name) (D : List Ev),
    runOps G rid ops (some B) grp f kn l S acc k = some r → Inp rid ops B kn l S S1 D acc Z FN → Out G rid ops B grp kn l S S1 D k r acc
theorem lt_of_here {i : Nat} {o : Oper} (h : ops[i]? = some o) : i < ops.length := (List.getElem?_eq_some_iff.1 h).1
theorem go_case (hB : Bits ops B) {f : Nat} (ih : IH G rid ops B f) {A : Type} {grp : Bool} {kn : List (Nat × Bool)} {i : Nat} {o : Oper} {l : List (Nat × Oper)} {S S1 : St} {acc : Logs} {k : St → Logs → Option A} {r : A} {Z : List Tmp} {FN : List Name} {D : List Ev}
    (hr : ((effOp G (uidOf rid i) S.eval o.op).runL S.ent [] fun e L => cond (okStep rid (bitsOf B i) i grp L (e.ents.map Prod.fst) acc) (runOps G rid ops (some B) grp f kn l (S.put o.dst e) ((i, some (L, e.ents.map Prod.fst)) :: acc) k) none) = some r)
    (hin : Inp rid ops B kn ((i, o) :: l) S S1 D acc Z FN) (hw : Wanted ops S1 o) (hu : unknown kn o.dst = true) : Out G rid ops B grp kn ((i, o) :: l) S S1 D k r acc := by
  obtain ⟨e, L, h1, h2⟩ := Rd.runL_some hr
  rw [List.append_nil] at h2
  cases hk : okStep rid (bitsOf B i) i grp L.reverse (e.ents.map Prod.fst) acc with
  | false => rw [hk] at h2; cases h2
  | true =>
    rw [hk] at h2
    simp only [cond_true] at h2
    have hi := lt_of_here (hin.here (i, o) List.mem_cons_self)
    obtain ⟨hlog, hpo, hown⟩ := okStep_po (o := o) hB hi hk hin.log (fun p hp => hin.asc p hp (i, o) List.mem_cons_self) (L' := L) (fun n hn => by simpa using hn)
    have hLF : ∀ n ∈ L, n ∉ FN := fun n hn hF => by
      obtain ⟨q, hq, hqn, hm⟩ := hin.fn n hF
      have := (hown q hq hqn).1 n (by simpa using hn); rw [hm] at this; cases this
    have hWF : ∀ n ∈ e.ents.map (·.1), n ∉ FN := fun n hn hF => by
      obtain ⟨q, hq, hqn, hm⟩ := hin.fn n hF
      have := (hown q hq hqn).2 n hn; rw [hm] at this; cases this
    have hstep : Step G rid ops S1 i o (some (e, L)) := by
      refine ⟨hw, ?_⟩
      rw [← effOp_congr (St.eval_sub hin.sub (hin.read (i, o) List.mem_cons_self))]
      exact Rd.runs_local (fun n hn => (hin.sub.en n (hLF n hn)).symm) h1
    have hin' := hin.next (res := some (e, L)) (acc' := (i, some (L.reverse, e.ents.map Prod.fst)) :: acc) (hin.sub.act o e L hWF) (hin.closed.put o.dst (effOp_in hin.closed.eval hin.closed.box h1)) hu (fun q hq => List.mem_cons_of_mem _ hq)
      (.inr ⟨_, List.mem_cons_self, rfl, .inr ⟨_, _, rfl, fun n hn => by simpa [resReads] using hn, fun n hn => hn⟩⟩)
    exact Out.step hstep hlog hpo hu (Sn := S.put o.dst e) (nw0 := e.ents) rfl (put_tm _ _ _) (fun n hn => hn) (ih grp kn l _ _ k r _ Z FN _ h2 hin')
theorem skip_case (hB : Bits ops B) {f : Nat} (ih : IH G rid ops B f) {A : Type} {grp : Bool} {kn : List (Nat × Bool)} {i : Nat} {o : Oper} {l : List (Nat × Oper)} {S S1 : St} {acc : Logs} {k : St → Logs → Option A} {r : A} {Z : List Tmp} {FN : List Name} {D : List Ev}
    (hr : runOps G rid ops (some B) grp f kn l (S.put o.dst ⟨.cell .void, []⟩) acc k = some r)
    (hin : Inp rid ops B kn ((i, o) :: l) S S1 D acc Z FN) (hw : Unwanted ops S1 o) (hu : unknown kn o.dst = true) : Out G rid ops B grp kn ((i, o) :: l) S S1 D k r acc := by
  have hin' := hin.next (res := none) (acc' := acc) (hin.sub.skip o) (hin.closed.put o.dst (EffIn.pure (data_in rfl))) hu (fun q hq => hq) (.inl ⟨rfl, rfl⟩)
  exact Out.step (res := none) hw ⟨by simp [resReads], by simp [resNames], by simp [resNames]⟩ (fun p hp => .inr (LogInd.of_idle_right rfl rfl)) hu (Sn := S.put o.dst ⟨.cell .void, []⟩) (nw0 := []) rfl (put_tm _ _ _) (by simp [resNames]) (ih grp kn l _ _ k r _ Z FN _ hr hin')
end Go.V
namespace Go.V
set_option linter.unusedVariables false
set_option linter.unusedSimpArgs false
variable {G : Env} {uid rid : Nat} {ops : List Oper} {B : List Nat}

theorem splitPick_spec {t : Tmp} : ∀ {l grp r' : List (Nat × Oper)} {pi : Nat} {p : Oper}, splitPick t l = some (grp, (pi, p), r') → l = grp ++ (pi, p) :: r' ∧ ∃ x y, p.op = .pick (.tmp t) x y
  | [], _, _, _, _, h => by simp [splitPick] at h
  | (i, o) :: r, grp, r', pi, p, h => by
    have hnext : ∀ {x : Option (List (Nat × Oper) × (Nat × Oper) × List (Nat × Oper))}, (match splitPick t r with | some (a, b, c) => some ((i, o) :: a, b, c) | none => none) = x → x = some (grp, (pi, p), r') → (i, o) :: r = grp ++ (pi, p) :: r' ∧ ∃ x y, p.op = .pick (.tmp t) x y := by
      intro x hx hs
      cases hq : splitPick t r with
      | none => rw [hq] at hx; subst hx; cases hs
      | some q =>
        obtain ⟨a, ⟨bi, b⟩, c⟩ := q
        rw [hq] at hx; subst hx
        simp only [Option.some.injEq, Prod.mk.injEq] at hs
        obtain ⟨rfl, ⟨rfl, rfl⟩, rfl⟩ := hs
        obtain ⟨h1, h2⟩ := splitPick_spec hq
        exact ⟨by rw [h1]; rfl, h2⟩
    simp only [splitPick] at h
    split at h
    · rename_i u x y ho
      cases hb : Nat.beq u t with
      | true =>
        rw [hb] at h
        simp only [cond_true, Option.some.injEq, Prod.mk.injEq] at h
        obtain ⟨rfl, ⟨rfl, rfl⟩, rfl⟩ := h
        exact ⟨rfl, x, y, by rw [ho, Nat.eq_of_beq_eq_true hb]⟩
      | false => rw [hb] at h; exact hnext rfl h
    · exact hnext rfl h
def dsts (grp : List (Nat × Oper)) : List Tmp := grp.filterMap (·.2.dst)
theorem mem_dsts {grp : List (Nat × Oper)} {t : Tmp} : t ∈ dsts grp ↔ ∃ p ∈ grp, p.2.dst = some t := by simp [dsts, List.mem_filterMap]
theorem find_forgets : ∀ {grp : List (Nat × Oper)} {m : List (Nat × AV)} {t : Tmp}, (t ∈ dsts grp → find (forgets grp ++ m) t = some .undef) ∧ (t ∉ dsts grp → find (forgets grp ++ m) t = find m t)
  | [], m, t => ⟨fun h => by simp [dsts] at h, fun _ => rfl⟩
  | (i, o) :: grp, m, t => by
    obtain ⟨k1, k2⟩ := find_forgets (grp := grp) (m := m) (t := t)
    cases hd : o.dst with
    | none =>
      have e : dsts ((i, o) :: grp) = dsts grp := by simp [dsts, hd]
      rw [e]; simp only [forgets, hd]; exact ⟨k1, k2⟩
    | some d =>
      have e : dsts ((i, o) :: grp) = d :: dsts grp := by simp [dsts, hd]
      rw [e]; simp only [forgets, hd, List.cons_append, find_cons, List.mem_cons, not_or]
      by_cases he : d = t
      · subst he; simp
      · rw [if_neg he]
        exact ⟨fun h => k1 (h.resolve_left fun e => he e.symm), fun h => k2 h.2⟩
theorem skip_all {j : Nat} {want : Bool} {t : Tmp} (hj : dstOf ops j = some t) : ∀ {grp : List (Nat × Oper)} {seen : List Nat} {S1 : St}, okGroup.okFrom ops j want t seen grp = true → S1.tmp t = .cell (.bool (!want)) → (∀ i ∈ seen, ∀ t', dstOf ops i = some t' → S1.tmp t' = .cell .void) →
    (∀ p ∈ grp, ops[p.1]? = some p.2) → ∃ S1a, Tr G rid ops (grp.map fun p => (p.1, p.2, none)) S1 S1a
  | [], seen, S1, _, _, _, _ => ⟨S1, Same.refl _⟩
  | (k, o) :: grp, seen, S1, h, ht, hs, hh => by
    simp only [okGroup.okFrom, Bool.and_eq_true] at h
    obtain ⟨h1, h2, h3⟩ := h
    have hk : ops[k]? = some o := hh (k, o) List.mem_cons_self
    have hstep : Unwanted ops S1 o := by
      cases hg : o.guard with
      | none => rw [hg] at h1; cases h1
      | some q =>
        obtain ⟨i, w⟩ := q
        rw [hg] at h1
        simp only [Bool.or_eq_true, Bool.and_eq_true] at h1
        rcases h1 with ⟨e1, e2⟩ | ⟨e1, e2⟩
        · obtain rfl := Nat.eq_of_beq_eq_true e1
          obtain rfl := beqB_eq e2
          exact ⟨i, w, t, hg, hj, .inl ht⟩
        · obtain ⟨q, hq, he⟩ := List.any_eq_true.1 e1
          obtain rfl := Nat.eq_of_beq_eq_true he
          cases hd : dstOf ops q with
          | none => rw [hd] at e2; cases e2
          | some t' => exact ⟨q, w, t', hg, hd, .inr (hs q hq t' hd)⟩
    have hdt : o.dst ≠ some t := fun hd => by rw [hd] at h2; simp at h2
    obtain ⟨S1a, hT⟩ := skip_all hj (grp := grp) (seen := k :: seen) (S1 := S1.act o none) h3 (by rw [St.tmp_act _ _ _ _ hdt]; exact ht) (fun i hi t' hd => by
      by_cases hw : o.dst = some t'
      · simp only [St.act, St.tmp_put, hw, if_true]
      · rw [St.tmp_act _ _ _ _ hw]
        rcases List.mem_cons.1 hi with rfl | hi
        · unfold dstOf at hd; rw [hk] at hd; exact absurd hd hw
        · exact hs i hi t' hd) (fun p hp => hh p (List.mem_cons_of_mem _ hp))
    exact ⟨S1a, hstep, hT⟩
theorem okFrom_dst {j : Nat} {want : Bool} {t : Tmp} : ∀ {grp : List (Nat × Oper)} {seen : List Nat}, okGroup.okFrom ops j want t seen grp = true → ∀ p ∈ grp, p.2.dst ≠ some t
  | [], _, _, p, hp => by simp at hp
  | (k, o) :: grp, seen, h, p, hp => by
    simp only [okGroup.okFrom, Bool.and_eq_true] at h
    rcases List.mem_cons.1 hp with rfl | hp
    · intro hd
      have hd : o.dst = some t := hd
      rw [hd] at h; simp at h
    · exact okFrom_dst h.2.2 p hp
theorem pick_runs {F : Name → Option Entry} {b v : Bool} {X Y : AV} (h : (cond b X Y) = .cell (.bool v)) : (effPick (.cell (.bool b)) X Y).Runs F ⟨.cell (.bool v), []⟩ [] := by
  unfold effPick
  split
  · rename_i c' x' y' e1
    cases e1
    cases b with
    | true => cases h; exact ⟨rfl, rfl⟩
    | false => cases h; exact ⟨rfl, rfl⟩
  · rename_i e1 _
    cases e1
    cases b with
    | true => simp only [cond_true] at h ⊢; subst h; exact ⟨rfl, rfl⟩
    | false => simp only [cond_false] at h ⊢; subst h; exact ⟨rfl, rfl⟩
  · rename_i h0 h1
    exact (h0 _ rfl).elim
theorem boolOf_some {x : AV} {v : Bool} (h : boolOf x = some v) : x = .cell (.bool v) := by
  unfold boolOf at h
  split at h
  · cases h; rfl
  · cases h
end Go.V
namespace Go.V
set_option linter.unusedVariables false
set_option linter.unusedSimpArgs false
variable {G : Env} {uid rid : Nat} {ops : List Oper} {B : List Nat}

theorem tmp_cons_in {D : Name → Prop} {tm : List (Nat × AV)} {en : List (Name × Entry)} (h : ∀ t, AVIn D (St.tmp ⟨tm, en⟩ t)) {d : Nat} {x : AV} (hx : AVIn D x) : ∀ t, AVIn D (St.tmp ⟨(d, x) :: tm, en⟩ t) := fun t => by
  by_cases hd : d = t
  · subst hd
    show AVIn D (match find ((d, x) :: tm) d with | some v => v | none => .undef)
    rw [find_self]; exact hx
  · show AVIn D (match find ((d, x) :: tm) t with | some v => v | none => .undef)
    rw [find_other hd]; exact h t
structure Grp (G : Env) (rid : Nat) (ops : List Oper) (B : List Nat) (kn : List (Nat × Bool)) (grp : List (Nat × Oper)) (S S1 : St) (D : List Ev) (t : Tmp) (x y : Operand) (b v : Bool) : Prop where
  out : ∃ (E : List Ev) (S1a : St), Tr G rid ops E S1 S1a ∧ E.map (fun p => (p.1, p.2.1)) = grp ∧ (∀ p ∈ E, Logged rid B true p) ∧ E.Pairwise (PO B) ∧ (∀ p ∈ D, ∀ q ∈ E, PO B p q) ∧
    (∀ p ∈ E, unknown kn p.2.1.dst = true) ∧ (∀ p ∈ E, ∀ n ∈ resNames p.2.2, find S.en n = none) ∧ S1a.tmp t = .cell (.bool b) ∧ cond b (S1a.eval x) (S1a.eval y) = .cell (.bool v)
theorem map_dst {E : List Ev} {grp : List (Nat × Oper)} (h : E.map (fun p => (p.1, p.2.1)) = grp) {p : Ev} (hp : p ∈ E) : (p.1, p.2.1) ∈ grp := by
  rw [← h]; exact List.mem_map.2 ⟨p, hp, rfl⟩
theorem unheld_spec {grp : List (Nat × Oper)} {x : Operand} (h : unheld grp x = true) {u : Tmp} (hx : x = .tmp u) : ∀ p ∈ grp, p.2.dst ≠ some u := by
  subst hx
  intro p hp hd
  have := List.all_eq_true.1 h p hp
  rw [hd] at this; simp at this
theorem eval_kept {E : List Ev} {S S' : St} {x : Operand} (hT : Tr G rid ops E S S') (h : ∀ u, x = .tmp u → ∀ p ∈ E, p.2.1.dst ≠ some u) : S'.eval x = S.eval x := by
  cases x with
  | tmp u => exact hT.tmp (h u rfl)
  | _ => rfl
theorem group_out (hB : Bits ops B) {f : Nat} (ih : IH G rid ops B f) {kn : List (Nat × Bool)} {grp l : List (Nat × Oper)} {S S1 : St} {acc : Logs} {Z : List Tmp} {FN : List Name} {D : List Ev} {j : Nat} {want : Bool} {t : Tmp} {b v : Bool} {x y : Operand}
    (hin : Inp rid ops B kn (grp ++ l) S S1 D acc Z FN) (hj : dstOf ops j = some t) (ht : S1.tmp t = .cell (.bool b)) (hok : okGroup ops j want t grp = true) (hkt : find kn t = none) (hgu : ∀ p ∈ grp, unknown kn p.2.dst = true)
    (hun : unheld grp (cond want y x) = true)
    (hv : (cond b (cond want (runOps G rid ops (some B) true f ((t, want) :: kn) grp S acc fun S' _ => cond (freshEnts S.en S'.en) (boolOf (S'.eval (cond want x y))) none) (boolOf (S.eval (cond want y x))))
      (cond want (boolOf (S.eval (cond want y x))) (runOps G rid ops (some B) true f ((t, want) :: kn) grp S acc fun S' _ => cond (freshEnts S.en S'.en) (boolOf (S'.eval (cond want x y))) none))) = some v) :
    Grp G rid ops B kn grp S S1 D t x y b v := by
  have hdt := okFrom_dst hok
  by_cases hbw : b = want
  · -- done
    have hX : (runOps G rid ops (some B) true f ((t, want) :: kn) grp S acc fun S' _ => cond (freshEnts S.en S'.en) (boolOf (S'.eval (cond want x y))) none) = some v := by
      subst hbw; cases b <;> exact hv
    have hin' : Inp rid ops B ((t, want) :: kn) grp S S1 D acc Z FN := by
      refine ⟨hin.sub, fun u c hu => ?_, hin.log, hin.fn, fun p hp => hin.here p (List.mem_append_left _ hp), fun p hp => hin.read p (List.mem_append_left _ hp), fun p hp q hq => hin.asc p hp q (List.mem_append_left _ hq), (List.pairwise_append.1 hin.asc').1, hin.closed⟩
      rw [find_cons] at hu
      split at hu
      · rename_i e; subst e; cases hu; rw [ht, hbw]
      · exact hin.known u c hu
    obtain ⟨E, S1', S', acc', Z', FN', nw, h1, h2, h3, h4, h5, h6, h7, h8, h9, h10, h11, h12⟩ := (ih true _ grp S acc _ v S1 Z FN D hX hin').out
    have hfr : freshEnts S.en S'.en = true ∧ boolOf (S'.eval (cond want x y)) = some v := by
      cases hf : freshEnts S.en S'.en with
      | true => rw [hf] at h1; exact ⟨rfl, h1⟩
      | false => rw [hf] at h1; cases h1
    have hEd : ∀ p ∈ E, p.2.1.dst ≠ some t := fun p hp => hdt _ (map_dst h3 hp)
    have hside := boolOf_some hfr.2
    have hside1 : S1'.eval (cond want x y) = .cell (.bool v) := by
      cases hxy : cond want x y with
      | tmp u =>
        rw [hxy] at hside
        rcases h4.1.tm u with h | ⟨_, h⟩
        · exact h.symm.trans hside
        · have hside : S'.tmp u = _ := hside
          rw [h] at hside; cases hside
      | const c => rw [hxy] at hside; exact hside
      | global c => rw [hxy] at hside; exact hside
      | func c => rw [hxy] at hside; exact hside
    refine ⟨E, S1', h2, h3, h7, h8, h9, fun p hp => hgu _ (map_dst h3 hp), fun p hp n hn => ?_, by rw [h2.tmp hEd]; exact ht, ?_⟩
    · rcases h12 p hp n hn with h | h
      · have hfe := hfr.1
        unfold freshEnts at hfe
        rw [h11.1, List.length_append, Nat.add_sub_cancel, List.take_left] at hfe
        obtain ⟨q, hq, rfl⟩ := List.mem_map.1 h
        have := List.all_eq_true.1 hfe q hq
        cases hf : find S.en q.1 with
        | none => rfl
        | some e => rw [hf] at this; cases this
      · exact h
    · subst hbw; cases b <;> exact hside1
  · -- passed over
    have hbn : b = !want := by cases b <;> cases want <;> simp_all
    have hD : boolOf (S.eval (cond want y x)) = some v := by
      subst hbn; cases want <;> exact hv
    obtain ⟨S1a, hT⟩ := skip_all (G := G) (rid := rid) hj hok (S1 := S1) (by rw [ht, hbn]) (by simp) (fun p hp => hin.here p (List.mem_append_left _ hp))
    have hmap : (grp.map fun p => ((p.1, p.2, none) : Ev)).map (fun p => (p.1, p.2.1)) = grp := by
      rw [List.map_map, show ((fun p : Ev => (p.1, p.2.1)) ∘ fun p : Nat × Oper => ((p.1, p.2, none) : Ev)) = id from rfl, List.map_id]
    have hEd : ∀ p ∈ grp.map fun p => ((p.1, p.2, none) : Ev), p.2.1.dst ≠ some t := fun p hp => hdt _ (map_dst hmap hp)
    have hidle : ∀ p ∈ grp.map fun p => ((p.1, p.2, none) : Ev), p.2.2 = none := fun p hp => by obtain ⟨q, _, rfl⟩ := List.mem_map.1 hp; rfl
    refine ⟨grp.map fun p => (p.1, p.2, none), S1a, hT, hmap, fun p hp => ?_, ?_, fun p hp q hq => .inr ?_, fun p hp => hgu _ (map_dst hmap hp), fun p hp n hn => ?_, by rw [hT.tmp hEd]; exact ht, ?_⟩
    · rw [show p = (p.1, p.2.1, p.2.2) from rfl, hidle p hp]
      exact ⟨by simp [resReads], by simp [resNames], by simp [resNames]⟩
    · rw [List.pairwise_map]
      exact List.Pairwise.imp (fun _ => .inr (LogInd.of_idle_right rfl rfl)) (List.pairwise_append.1 hin.asc').1
    · rw [hidle q hq]; exact LogInd.of_idle_right rfl rfl
    · rw [hidle p hp] at hn; simp [resNames] at hn
    · have hs := boolOf_some hD
      have h1 : S1.eval (cond want y x) = .cell (.bool v) := by
        cases hxy : cond want y x with
        | tmp u =>
          rw [hxy] at hs
          rcases hin.sub.tm u with h | ⟨_, h⟩
          · exact h.symm.trans hs
          · have hs : S.tmp u = _ := hs
            rw [h] at hs; cases hs
        | const c => rw [hxy] at hs; exact hs
        | global c => rw [hxy] at hs; exact hs
        | func c => rw [hxy] at hs; exact hs
      have h2 : S1a.eval (cond want y x) = .cell (.bool v) := by
        rw [eval_kept hT (fun u hu p hp => unheld_spec hun hu _ (map_dst hmap hp))]; exact h1
      subst hbn; cases want <;> exact h2
theorem group_case (hB : Bits ops B) {f : Nat} (ih : IH G rid ops B f) {A : Type} {gr : Bool} {kn : List (Nat × Bool)} {grp r' : List (Nat × Oper)} {pi : Nat} {p : Oper} {S S1 : St} {acc : Logs} {k : St → Logs → Option A} {r : A} {Z : List Tmp} {FN : List Name} {D : List Ev}
    {t d : Tmp} {b v : Bool} {x y : Operand} (hin : Inp rid ops B kn (grp ++ (pi, p) :: r') S S1 D acc Z FN) (hg : Grp G rid ops B kn grp S S1 D t x y b v) (hop : p.op = .pick (.tmp t) x y) (hd : p.dst = some d) (hpk : pickOk ops kn p = true)
    (hun : unread ops grp r' = true) (hpd : unknown kn p.dst = true)
    (hr : runOps G rid ops (some B) gr f kn r' ⟨(d, .cell (.bool v)) :: (forgets grp ++ S.tm), S.en⟩ ((pi, some ([], [])) :: (grp.map fun q => (q.1, none)) ++ acc) k = some r) :
    Out G rid ops B gr kn (grp ++ (pi, p) :: r') S S1 D k r acc := by
  obtain ⟨E, S1a, h2, h3, h7, h8, h9, h10, h12, htb, hside⟩ := hg.out
  have hEd : ∀ q ∈ E, ∀ u c, find kn u = some c → q.2.1.dst ≠ some u := fun q hq u c hu he => by
    have := h10 q hq; rw [he] at this; exact unknown_find this hu
  have hstep : Step G rid ops S1a pi p (some (⟨.cell (.bool v), []⟩, [])) := by
    refine ⟨fun i w hgd => ?_, ?_⟩
    · unfold pickOk at hpk
      rw [hgd] at hpk
      simp only at hpk
      cases hdi : dstOf ops i with
      | none => rw [hdi] at hpk; cases hpk
      | some t' =>
        rw [hdi] at hpk
        simp only at hpk
        cases hk : find kn t' with
        | none => rw [hk] at hpk; cases hpk
        | some c =>
          rw [hk] at hpk
          obtain rfl := beqB_eq hpk
          exact ⟨t', rfl, by rw [h2.tmp fun q hq => hEd q hq t' c hk]; exact hin.known t' c hk⟩
    · rw [hop]
      show (effPick (S1a.tmp t) (S1a.eval x) (S1a.eval y)).Runs _ _ _
      rw [htb]; exact pick_runs hside
  let S1b := S1a.act p (some (⟨.cell (.bool v), []⟩, []))
  let pe : Ev := (pi, p, some (⟨.cell (.bool v), []⟩, []))
  have hasc := List.pairwise_append.1 hin.asc'
  have hasc2 := List.pairwise_cons.1 hasc.2.1
  have hnm : ∀ n, n ∈ E.flatMap (fun q => resNames q.2.2) ↔ ∃ q ∈ E, n ∈ resNames q.2.2 := fun n => List.mem_flatMap
  have hin2 : Inp rid ops B kn r' ⟨(d, .cell (.bool v)) :: (forgets grp ++ S.tm), S.en⟩ S1b (D ++ E ++ [pe]) ((pi, some ([], [])) :: (grp.map fun q => (q.1, none)) ++ acc) (Z ++ dsts grp) (FN ++ E.flatMap fun q => resNames q.2.2) := by
    refine ⟨⟨fun u => ?_, fun n hn => ?_, fun n hn => ?_⟩, fun u c hu => ?_, fun q hq => ?_, fun n hn => ?_, fun q hq => hin.here q (by simp [hq]), fun q hq u hu hl => ?_, fun q hq q' hq' => ?_, hasc2.2, ⟨fun u => ?_, hin.closed.box⟩⟩
    · -- slots
      by_cases hu : d = u
      · subst hu
        left
        show (match find ((d, AV.cell (.bool v)) :: _) d with | some v => v | none => .undef) = _
        rw [find_self]
        simp only [S1b, St.act, St.tmp_put, hd, if_true]
      · have e1 : S1b.tmp u = S1a.tmp u := St.tmp_act _ _ _ _ (by rw [hd]; simpa using hu)
        have e2 : St.tmp ⟨(d, .cell (.bool v)) :: (forgets grp ++ S.tm), S.en⟩ u = (match find (forgets grp ++ S.tm) u with | some v => v | none => .undef) := by
          show (match find ((d, AV.cell (.bool v)) :: _) u with | some v => v | none => .undef) = _
          rw [find_other hu]
        rw [e1, e2]
        by_cases hg : u ∈ dsts grp
        · right
          rw [find_forgets.1 hg]; exact ⟨List.mem_append_right _ hg, rfl⟩
        · rw [find_forgets.2 hg]
          have e3 : S1a.tmp u = S1.tmp u := h2.tmp fun q hq he => hg (mem_dsts.2 ⟨_, map_dst h3 hq, he⟩)
          rw [e3]
          rcases hin.sub.tm u with h | ⟨h, h'⟩
          · exact .inl h
          · exact .inr ⟨List.mem_append_left _ h, h'⟩
    · simp only [List.mem_append, not_or] at hn
      rw [show S1b = S1a.act p (some (⟨.cell (.bool v), []⟩, [])) from rfl, St.en_act _ _ _ _ (by simp [resNames]), h2.en fun q hq hm => hn.2 ((hnm n).2 ⟨q, hq, hm⟩)]
      exact hin.sub.en n hn.1
    · rcases List.mem_append.1 hn with hn | hn
      · exact hin.sub.no n hn
      · obtain ⟨q, hq, hm⟩ := (hnm n).1 hn; exact h12 q hq n hm
    · rw [show S1b = S1a.act p (some (⟨.cell (.bool v), []⟩, [])) from rfl, St.tmp_act _ _ _ _ (fun he => by rw [he] at hpd; exact unknown_find hpd hu), h2.tmp fun q hq => hEd q hq u c hu]
      exact hin.known u c hu
    · simp only [List.mem_append, List.mem_singleton] at hq
      rcases hq with (hq | hq) | rfl
      · exact (hin.log q hq).mono fun z hz => by simp [hz]
      · refine .inr ⟨(q.1, none), ?_, rfl, .inl ⟨rfl, h7 q hq⟩⟩
        have := map_dst h3 hq
        simp only [List.cons_append, List.mem_cons, List.mem_append, List.mem_map]
        exact .inr (.inl ⟨_, this, rfl⟩)
      · exact .inl ⟨rfl, rfl⟩
    · rcases List.mem_append.1 hn with hn | hn
      · obtain ⟨q, hq, h⟩ := hin.fn n hn; exact ⟨q, by simp [hq], h⟩
      · obtain ⟨q, hq, hm⟩ := (hnm n).1 hn
        refine ⟨(q.1, none), ?_, rfl, (h7 q hq).own rfl n hm⟩
        have := map_dst h3 hq
        simp only [List.cons_append, List.mem_cons, List.mem_append, List.mem_map]
        exact .inr (.inl ⟨_, this, rfl⟩)
    · rcases List.mem_append.1 hu with hu | hu
      · exact hin.read q (by simp [hq]) u hu hl
      · obtain ⟨g, hgm, hgd⟩ := mem_dsts.1 hu
        have := List.all_eq_true.1 (List.all_eq_true.1 hun q hq) g hgm
        rw [hgd] at this
        simp only [Bool.not_eq_true', List.contains_eq_mem, decide_eq_false_iff_not] at this
        exact this (looks_at hl)
    · simp only [List.mem_append, List.mem_singleton] at hq
      rcases hq with (hq | hq) | rfl
      · exact hin.asc q hq q' (by simp [hq'])
      · exact hasc.2.2 _ (map_dst h3 hq) q' (List.mem_cons_of_mem _ hq')
      · exact hasc2.1 q' hq'
    · refine tmp_cons_in (x := .cell (.bool v)) (fun u => ?_) (fun n hn => by simp [Cell.refs] at hn) u
      show AVIn _ (match find (forgets grp ++ S.tm) u with | some v => v | none => .undef)
      by_cases hg : u ∈ dsts grp
      · rw [find_forgets.1 hg]; exact fun n hn => by simp [Cell.refs] at hn
      · rw [find_forgets.2 hg]; exact hin.closed.tmp u
  obtain ⟨E', S1', S', acc', Z', FN', nw, g1, g2, g3, g4, g5, g6, g7, g8, g9, g10, g11, g12⟩ := (ih gr kn r' _ _ k r S1b _ _ _ hr hin2).out
  refine ⟨E ++ pe :: E', S1', S', acc', Z', FN', nw, g1, h2.append ⟨hstep, g2⟩, by simp [h3, g3, pe], g4, fun q hq => g5 q (by simpa using hq), g6, fun q hq => ?_, ?_, fun q hq q' hq' => ?_, fun q hq => ?_, ⟨g11.1, tm_more g11.2 ⟨(d, .cell (.bool v)) :: forgets grp, rfl⟩⟩, fun q hq n hn => ?_⟩
  · rcases List.mem_append.1 hq with hq | hq
    · exact (h7 q hq).loose
    · rcases List.mem_cons.1 hq with rfl | hq
      · exact ⟨by simp [pe, resReads], by simp [pe, resNames], by simp [pe, resNames]⟩
      · exact g7 q hq
  · rw [List.pairwise_append, List.pairwise_cons]
    refine ⟨h8, ⟨fun q hq => g9 pe (by simp) q hq, g8⟩, fun q hq q' hq' => ?_⟩
    rcases List.mem_cons.1 hq' with rfl | hq'
    · exact .inr (LogInd.of_idle_right rfl rfl)
    · exact g9 q (by simp [hq]) q' hq'
  · rcases List.mem_append.1 hq' with hq' | hq'
    · exact h9 q hq q' hq'
    · rcases List.mem_cons.1 hq' with rfl | hq'
      · exact .inr (LogInd.of_idle_right rfl rfl)
      · exact g9 q (by simp [hq]) q' hq'
  · rcases List.mem_append.1 hq with hq | hq
    · exact h10 q hq
    · rcases List.mem_cons.1 hq with rfl | hq
      · exact hpd
      · exact g10 q hq
  · rcases List.mem_append.1 hq with hq | hq
    · exact .inr (h12 q hq n hn)
    · rcases List.mem_cons.1 hq with rfl | hq
      · simp [pe, resNames] at hn
      · exact g12 q hq n hn
theorem runs_out (hB : Bits ops B) : ∀ f, IH G rid ops B f
  | 0 => by intro grp kn l S acc k r S1 Z FN D h _; simp [runOps] at h
  | f + 1 => by
    intro grp kn l S acc k r S1 Z FN D h hin
    have ih : IH G rid ops B f := runs_out hB f
    cases l with
    | nil =>
      simp only [runOps] at h
      exact ⟨[], S1, S, acc, Z, FN, [], h, Same.refl _, rfl, ⟨hin.sub, hin.closed⟩, by simpa using hin.log, hin.fn, by simp, List.Pairwise.nil, by simp, by simp, ⟨rfl, [], rfl⟩, by simp⟩
    | cons io l =>
      obtain ⟨i, o⟩ := io
      simp only [runOps] at h
      cases hu : unknown kn o.dst with
      | false => rw [hu] at h; cases h
      | true =>
        rw [hu] at h
        simp only [cond_true] at h
        cases hg : o.guard with
        | none =>
          rw [hg] at h
          exact go_case hB ih h hin (fun j w hj => by rw [hg] at hj; cases hj) hu
        | some q =>
          obtain ⟨j, want⟩ := q
          rw [hg] at h
          simp only at h
          cases hj : dstOf ops j with
          | none => rw [hj] at h; cases h
          | some t =>
            rw [hj] at h
            simp only at h
            cases hk : find kn t with
            | some c =>
              rw [hk] at h
              simp only at h
              have htc := hin.known t c hk
              cases hb : beqB c want with
              | true =>
                rw [hb] at h
                obtain rfl := beqB_eq hb
                exact go_case hB ih h hin (fun j' w' hj' => by rw [hg] at hj'; cases hj'; exact ⟨t, hj, htc⟩) hu
              | false =>
                rw [hb] at h
                have := beqB_ne hb
                exact skip_case hB ih h hin ⟨j, want, t, hg, hj, .inl (by rw [htc, this])⟩ hu
            | none =>
              rw [hk] at h
              simp only at h
              cases ht : S.tmp t with
              | agg _ => rw [ht] at h; cases h
              | tup _ => rw [ht] at h; cases h
              | cell c =>
                have hS1 : c ≠ .undef → S1.tmp t = .cell c := fun hne => by
                  rcases hin.sub.tm t with h | ⟨_, h⟩
                  · exact h.symm.trans ht
                  · rw [ht] at h; exact absurd (by cases h; rfl) hne
                rw [ht] at h
                cases c <;> try (cases h; done)
                case void => exact skip_case hB ih h hin ⟨j, want, t, hg, hj, .inr (hS1 (by simp))⟩ hu
                case bool b =>
                  have ht1 := hS1 (by simp)
                  simp only at h
                  cases hs : splitPick t ((i, o) :: l) with
                  | none => rw [hs] at h; cases h
                  | some z =>
                    obtain ⟨g', ⟨pi, p⟩, r'⟩ := z
                    rw [hs] at h
                    simp only at h
                    obtain ⟨hl, x, y, hop⟩ := splitPick_spec hs
                    cases hok : (okGroup ops j want t g' && ((g'.all fun q => plainOp G S.eval q.2.op) && storesOk B g' r')) with
                    | true =>
                      rw [hok] at h
                      simp only [Bool.and_eq_true, cond_true] at hok h
                      rw [hop] at h
                      cases hd : p.dst with
                      | none => rw [hd] at h; cases h
                      | some d =>
                        rw [hd] at h
                        simp only at h
                        cases hc : (pickOk ops kn p && unread ops g' r' && (unheld g' (cond want y x) && (g'.all (fun q => unknown kn q.2.dst) && unknown kn (some d)))) with
                        | false => rw [hc] at h; cases h
                        | true =>
                          rw [hc] at h
                          simp only [Bool.and_eq_true, cond_true] at hc h
                          obtain ⟨⟨c1, c2⟩, c3, c4, c5⟩ := hc
                          rw [Option.bind_eq_some_iff] at h
                          obtain ⟨v, hv, hr⟩ := h
                          rw [hl] at hin ⊢
                          exact group_case hB ih hin (group_out hB ih hin hj ht1 hok.1 hk (fun q hq => List.all_eq_true.1 c4 q hq) c3 hv) hop hd c1 c2 (by rw [hd]; exact c5) hr
                    | false =>
                      rw [hok] at h
                      simp only [cond_false] at h
                      have key : ∀ c : Bool, b = c → runOps G rid ops (some B) grp f ((t, c) :: kn) ((i, o) :: l) ⟨(t, .cell (.bool c)) :: S.tm, S.en⟩ acc k = some r → Out G rid ops B grp kn ((i, o) :: l) S S1 D k r acc := by
                        intro c hbc hrun
                        have hin' : Inp rid ops B ((t, c) :: kn) ((i, o) :: l) ⟨(t, .cell (.bool c)) :: S.tm, S.en⟩ S1 D acc Z FN := by
                          refine ⟨⟨fun u => ?_, hin.sub.en, hin.sub.no⟩, fun u c' hu' => ?_, hin.log, hin.fn, hin.here, hin.read, hin.asc, hin.asc', ⟨fun u => ?_, hin.closed.box⟩⟩
                          · by_cases hu' : t = u
                            · subst hu'
                              left
                              show (match find ((t, AV.cell (.bool c)) :: S.tm) t with | some v => v | none => .undef) = _
                              rw [find_self, ht1, hbc]
                            · show (match find ((t, AV.cell (.bool c)) :: S.tm) u with | some v => v | none => .undef) = _ ∨ (_ ∧ (match find ((t, AV.cell (.bool c)) :: S.tm) u with | some v => v | none => .undef) = _)
                              rw [find_other hu']; exact hin.sub.tm u
                          · rw [find_cons] at hu'
                            split at hu'
                            · rename_i e; subst e; cases hu'; rw [ht1, hbc]
                            · exact hin.known u c' hu'
                          · exact tmp_cons_in (x := .cell (.bool c)) hin.closed.tmp (fun n hn => by simp [Cell.refs] at hn) u
                        obtain ⟨E, S1', S', acc', Z', FN', nw, g1, g2, g3, g4, g5, g6, g7, g8, g9, g10, g11, g12⟩ := (ih grp _ _ _ _ k r S1 Z FN D hrun hin').out
                        refine ⟨E, S1', S', acc', Z', FN', nw, g1, g2, g3, g4, g5, g6, g7, g8, g9, fun q hq => ?_, ⟨g11.1, tm_more g11.2 ⟨[(t, .cell (.bool c))], rfl⟩⟩, g12⟩
                        have := g10 q hq
                        cases hdq : q.2.1.dst with
                        | none => rfl
                        | some u =>
                          rw [hdq] at this
                          simp only [unknown, find_cons] at this ⊢
                          split at this
                          · rename_i hh
                            split at hh
                            · cases hh
                            · rw [hh]
                          · cases this
                      cases b with
                      | true => exact key true rfl h
                      | false => exact key false rfl h
end Go.V
namespace Go.V
set_option linter.unusedVariables false
set_option linter.unusedSimpArgs false
variable {G : Env} {uid rid : Nat} {ops : List Oper} {B : List Nat}

theorem runs_plain {A : Type} {grp : Bool} {kn : List (Nat × Bool)} {k : St → Logs → Option A} {r : A} {acc : Logs} : ∀ {f : Nat} {l : List (Nat × Oper)} {S : St}, runOps G rid ops none grp f kn l S acc k = some r →
    ∃ E S', Tr G rid ops E S S' ∧ E.map (fun p => (p.1, p.2.1)) = l ∧ k S' acc = some r ∧ (∃ nw, S'.en = nw ++ S.en) ∧ ∃ nt, S'.tm = nt ++ S.tm
  | 0, l, S, h => by simp [runOps] at h
  | f + 1, [], S, h => ⟨[], S, Same.refl _, rfl, by simpa [runOps] using h, ⟨[], rfl⟩, [], rfl⟩
  | f + 1, (i, o) :: l, S, h => by
    simp only [runOps] at h
    cases hu : unknown kn o.dst with
    | false => rw [hu] at h; cases h
    | true =>
      rw [hu] at h
      simp only [cond_true] at h
      cases hg : o.guard with
      | some q => rw [hg] at h; cases h
      | none =>
        rw [hg] at h
        obtain ⟨e, L, h1, h2⟩ := Rd.run_some h
        obtain ⟨E, S', k1, k2, k3, ⟨nw, k4⟩, k5⟩ := runs_plain h2
        exact ⟨(i, o, some (e, L)) :: E, S', ⟨⟨(fun j w hj => by rw [hg] at hj; cases hj), h1⟩, k1⟩, by simp [k2], k3, ⟨nw ++ e.ents, by rw [k4, St.en_put, List.append_assoc]⟩, tm_more k5 (put_tm _ _ _)⟩

theorem hasBit_eq (b i : Nat) : hasBit b i = b.testBit i := by
  unfold hasBit Nat.testBit
  show Nat.beq (1 &&& (b >>> i)) 1 = (1 &&& (b >>> i) != 0)
  have h : 1 &&& (b >>> i) = (b >>> i) % 2 := by rw [Nat.and_comm]; exact Nat.and_one_is_mod _
  rw [h]
  rcases Nat.mod_two_eq_zero_or_one (b >>> i) with h | h <;> rw [h] <;> rfl
theorem bitsLt_spec : ∀ {l : List Nat} {i : Nat}, bitsLt i l = true → ∀ k b, l[k]? = some b → b < 2 ^ (i + k)
  | [], i, h, k, b, hk => by simp at hk
  | c :: l, i, h, 0, b, hk => by
    simp only [bitsLt, Bool.and_eq_true] at h
    simp at hk; subst hk
    have := Nat.le_of_ble_eq_true h.1
    rw [show Nat.shiftLeft 1 i = 2 ^ i from by show 1 <<< i = _; rw [Nat.shiftLeft_eq, Nat.one_mul]] at this
    exact this
  | c :: l, i, h, k + 1, b, hk => by
    simp only [bitsLt, Bool.and_eq_true] at h
    have := bitsLt_spec h.2 k b (by simpa using hk)
    rw [show i + (k + 1) = i + 1 + k by omega]; exact this
theorem Bits.of (h1 : ops.length < 256) (h2 : bitsLt 0 B = true) : Bits ops B := by
  refine ⟨fun k i hki => ?_, h1⟩
  rw [hasBit_eq]
  unfold bitsOf
  cases hk : B[k]? with
  | none => simp
  | some b =>
    have := bitsLt_spec h2 k b hk
    rw [Nat.zero_add] at this
    exact Nat.testBit_lt_two_pow (Nat.lt_of_lt_of_le this (Nat.pow_le_pow_right (by omega) hki))
theorem fold_bits {acc : List Nat} {a : Nat} : ∀ (l : List Edge) (s : Nat), hasBit (l.foldl (fun s e => cond (Region.binds .any e) (Nat.lor (Nat.lor s (Nat.shiftLeft 1 e.on)) (bitsOf acc e.on)) s) s) a = true →
    hasBit s a = true ∨ ∃ e ∈ l, Region.binds .any e = true ∧ (e.on = a ∨ hasBit (bitsOf acc e.on) a = true)
  | [], s, h => .inl h
  | e :: l, s, h => by
    simp only [List.foldl_cons] at h
    rcases fold_bits l _ h with h | ⟨e', he, hb, k⟩
    · cases hb : Region.binds .any e with
      | false => rw [hb] at h; exact .inl h
      | true =>
        rw [hb] at h
        simp only [cond_true] at h
        rw [hasBit_eq] at h
        have h : ((s ||| (1 <<< e.on)) ||| bitsOf acc e.on).testBit a = true := h
        rw [Nat.testBit_or, Nat.testBit_or, Bool.or_eq_true, Bool.or_eq_true] at h
        rcases h with (h | h) | h
        · exact .inl (by rw [hasBit_eq]; exact h)
        · refine .inr ⟨e, List.mem_cons_self, hb, .inl ?_⟩
          rw [Nat.one_shiftLeft, Nat.testBit_two_pow] at h
          simpa using h
        · exact .inr ⟨e, List.mem_cons_self, hb, .inr (by rw [hasBit_eq]; exact h)⟩
    · exact .inr ⟨e', List.mem_cons_of_mem _ he, hb, k⟩
theorem befs_prefix : ∀ (l : List Oper) (acc : List Nat), ∃ r, befs l acc = acc ++ r ∧ r.length = l.length
  | [], acc => ⟨[], by simp [befs], rfl⟩
  | o :: l, acc => by
    obtain ⟨r, h1, h2⟩ := befs_prefix l (acc ++ [befOne acc o])
    exact ⟨_ :: r, by rw [befs, h1, List.append_assoc]; rfl, by simp [h2]⟩
theorem befs_spec : ∀ (l : List Oper) (acc : List Nat) (k : Nat) (o : Oper), l[k]? = some o → ∀ a, hasBit (bitsOf (befs l acc) (acc.length + k)) a = true →
    ∃ e ∈ o.after.toList, Region.binds .any e = true ∧ (e.on = a ∨ hasBit (bitsOf (befs l acc) e.on) a = true)
  | [], acc, k, o, hk, a, h => by simp at hk
  | p :: l, acc, 0, o, hk, a, h => by
    simp at hk; subst hk
    obtain ⟨r, h1, h2⟩ := befs_prefix l (acc ++ [befOne acc p])
    rw [befs, h1] at h ⊢
    have hat : ((acc ++ [befOne acc p]) ++ r)[acc.length + 0]? = some (befOne acc p) := by
      rw [List.append_assoc, List.getElem?_append_right (by omega)]; simp
    unfold bitsOf at h
    rw [hat] at h
    rcases fold_bits _ _ h with h | ⟨e, he, hb, k⟩
    · rw [hasBit_eq] at h; simp at h
    · refine ⟨e, he, hb, k.imp id fun k => ?_⟩
      unfold bitsOf at k ⊢
      cases hq : acc[e.on]? with
      | none => rw [hq] at k; rw [hasBit_eq] at k; simp at k
      | some b =>
        rw [hq] at k
        have hlt : e.on < acc.length := (List.getElem?_eq_some_iff.1 hq).1
        rw [List.append_assoc, List.getElem?_append_left hlt, hq]; exact k
  | p :: l, acc, k + 1, o, hk, a, h => by
    rw [befs] at h ⊢
    have := befs_spec l (acc ++ [befOne acc p]) k o (by simpa using hk) a
    rw [List.length_append, List.length_singleton, show acc.length + 1 + k = acc.length + (k + 1) by omega] at this
    exact this h
end Go.V
namespace Go.V
set_option linter.unusedVariables false
set_option linter.unusedSimpArgs false
variable {P : Program} {G : Env} {rid : Nat} {ops : Array Oper} {B : List Nat} {Q : Exit → Act → World → Prop} {R : St → Act → World → Prop}

structure Sound (P : Program) (G : Env) (rid : Nat) (ops : Array Oper) (Q : Exit → Act → World → Prop) (R : St → Act → World → Prop) : Prop where
  same : ∀ S S' a w, Same S S' → R S a w → R S' a w
  step : ∀ S i o r a w (K : Act → World → Prop), Step G rid ops.toList S i o r → ops.toList[i]? = some o → R S a w → (∀ a' w', R (S.act o r) a' w' → K a' w') → wpOp P ops Q i K a w
def Far (ops : Array Oper) (B : List Nat) (p q : Ev) : Prop := hasBit (bitsOf B q.1) p.1 = true ∨ Indep ops.toList p.2.1 q.2.1 p.2.2 q.2.2
theorem plain_order (hs : Sound P G rid ops Q R) : ∀ {E : List Ev} {S S' : St} {a : Act} {w : World}, Tr G rid ops.toList E S S' → (∀ p ∈ E, ops.toList[p.1]? = some p.2.1) → R S a w → (∀ a w, R S' a w → Q .normal a w) → wpOps P ops Q (E.map (·.1)) a w
  | [], S, S', a, w, h, _, hR, hQ => hQ a w (hs.same S S' a w h hR)
  | (i, o, r) :: E, S, S', a, w, ⟨h1, h2⟩, hh, hR, hQ => by
    rw [List.map_cons, wpOps_cons]
    exact hs.step S i o r a w _ h1 (hh (i, o, r) List.mem_cons_self) hR fun a' w' hR' => plain_order hs h2 (fun p hp => hh p (List.mem_cons_of_mem _ hp)) hR' hQ
structure Rest (ops : Array Oper) (B : List Nat) (listed : Array Bool) (E : List Ev) : Prop where
  size : listed.size = ops.size
  here : ∀ p ∈ E, ops.toList[p.1]? = some p.2.1
  mem : ∀ i, i < ops.size → (listed.getD i true = false ↔ ∃ p ∈ E, p.1 = i)
  asc : E.Pairwise fun p q => p.1 < q.1
  far : E.Pairwise (Far ops B)
  closed : ∀ i, i < ops.size → listed.getD i true = true → ∀ a, hasBit (bitsOf B i) a = true → listed.getD a false = true
structure Befs (ops : Array Oper) (B : List Nat) : Prop where
  spec : ∀ i o, ops.toList[i]? = some o → ∀ a, hasBit (bitsOf B i) a = true → ∃ e ∈ o.after.toList, Region.binds .any e = true ∧ (e.on = a ∨ hasBit (bitsOf B e.on) a = true)
  forward : ∀ i o, ops.toList[i]? = some o → ∀ e ∈ o.after.toList, Region.binds .any e = true → e.on < i
theorem ready_iff {listed : Array Bool} {i : Nat} : i ∈ Region.ready .any ops listed ↔ i < ops.size ∧ listed.getD i true = false ∧ ∃ o, ops[i]? = some o ∧ ∀ e ∈ o.after, Region.binds .any e = true → listed.getD e.on false = true := by
  simp only [Region.ready, List.mem_filter, List.mem_range, Bool.and_eq_true, Bool.not_eq_true']
  constructor
  · rintro ⟨h1, h2, h3⟩
    refine ⟨h1, h2, ops[i], by simp [h1], fun e he hb => ?_⟩
    simp [h1] at h3
    obtain ⟨k, hk, rfl⟩ := Array.mem_iff_getElem.1 he
    have := h3 k hk
    rw [hb] at this; simpa using this
  · rintro ⟨h1, h2, o, ho, h3⟩
    refine ⟨h1, h2, ?_⟩
    rw [ho]
    simp only [Option.map_some, Option.getD_some, Array.all_eq_true]
    intro k hk
    cases hb : Region.binds .any o.after[k] with
    | false => rfl
    | true => simpa [hb] using h3 _ (Array.getElem_mem hk) hb
theorem getD_lt {listed : Array Bool} {i : Nat} {d d' : Bool} (h : i < listed.size) : listed.getD i d = listed.getD i d' := by simp [Array.getD, h]
theorem any_order (hs : Sound P G rid ops Q R) (hB : Befs ops B) : ∀ {n : Nat} {listed : Array Bool} {E : List Ev} {S S' : St} {a : Act} {w : World}, E.length = n → Tr G rid ops.toList E S S' → Rest ops B listed E → R S a w → (∀ a w, R S' a w → Q .normal a w) →
    wpAny P .any ops Q n listed a w := by
  have dead : ∀ {listed : Array Bool} {E : List Ev}, Rest ops B listed E → E ≠ [] → Region.ready .any ops listed ≠ [] := by
    intro listed E hr hne
    cases E with
    | nil => exact absurd rfl hne
    | cons p E =>
      have hp := hr.here p List.mem_cons_self
      have hlt : p.1 < ops.size := by simpa using (List.getElem?_eq_some_iff.1 hp).1
      have : p.1 ∈ Region.ready .any ops listed := by
        rw [ready_iff]
        refine ⟨hlt, (hr.mem p.1 hlt).2 ⟨p, List.mem_cons_self, rfl⟩, p.2.1, by simpa using hp, fun e he hb => ?_⟩
        have hf := hB.forward p.1 p.2.1 hp e (by simpa using he) hb
        have hel : e.on < ops.size := by omega
        cases hl : listed.getD e.on true with
        | true => rw [getD_lt (d' := true) (by rw [hr.size]; exact hel)]; exact hl
        | false =>
          obtain ⟨q, hq, hqe⟩ := (hr.mem e.on hel).1 hl
          rcases List.mem_cons.1 hq with rfl | hq
          · omega
          · have := (List.pairwise_cons.1 hr.asc).1 q hq; omega
      intro h0; rw [h0] at this; simp at this
  intro n
  induction n with
  | zero =>
    intro listed E S S' a w hn hT hr hR hQ
    obtain rfl := List.length_eq_zero_iff.1 hn
    refine ⟨?_, hQ a w (hs.same S S' a w hT hR)⟩
    rw [List.eq_nil_iff_forall_not_mem]
    intro i hi
    rw [ready_iff] at hi
    obtain ⟨p, hp, _⟩ := (hr.mem i hi.1).1 hi.2.1
    simp at hp
  | succ n ih =>
    intro listed E S S' a w hn hT hr hR hQ
    have hne : E ≠ [] := fun h => by rw [h] at hn; simp at hn
    refine ⟨fun h => absurd h (dead hr hne), fun i hi => ?_⟩
    rw [ready_iff] at hi
    obtain ⟨hlt, hun, o, ho, hrd⟩ := hi
    obtain ⟨p, hp, rfl⟩ := (hr.mem i hlt).1 hun
    obtain ⟨A, C, rfl⟩ := List.append_of_mem hp
    obtain ⟨j, y, ry⟩ := p
    have hjo := hr.here (j, y, ry) hp
    have hasc := List.pairwise_append.1 hr.asc
    have hasc2 := List.pairwise_cons.1 hasc.2.1
    have hfar := List.pairwise_append.1 hr.far
    have hoy : o = y := by simpa [ho] using hjo
    subst hoy
    -- whatever comes ahead of it by an edge is done
    have hdone : ∀ c, hasBit (bitsOf B j) c = true → listed.getD c false = true := by
      intro c hc
      obtain ⟨e, he, hb, k⟩ := hB.spec j o hjo c hc
      have hl := hrd e (by simpa using he) hb
      rcases k with rfl | k
      · exact hl
      · have hel : e.on < ops.size := by have := hB.forward j o hjo e he hb; omega
        exact hr.closed e.on hel (by rw [getD_lt (d' := false) (by rw [hr.size]; exact hel)]; exact hl) c k
    have hind : ∀ q ∈ A, Indep ops.toList q.2.1 o q.2.2 ry := by
      intro q hq
      rcases hfar.2.2 q hq (j, o, ry) List.mem_cons_self with h | h
      · have h1 := hdone q.1 h
        have hq1 : q.1 < ops.size := by simpa using (List.getElem?_eq_some_iff.1 (hr.here q (by simp [hq]))).1
        have h2 := (hr.mem q.1 hq1).2 ⟨q, by simp [hq], rfl⟩
        rw [getD_lt (d' := false) (by rw [hr.size]; exact hq1), h1] at h2; cases h2
      · exact h
    obtain ⟨k1, k2⟩ := Tr.bubble hind hT
    refine hs.step S j o ry a w _ k1 hjo hR fun a' w' hR' => ih (by simp at hn ⊢; omega) k2 ?_ hR' hQ
    have hget : ∀ c d, (listed.setIfInBounds j true).getD c d = if c = j then true else listed.getD c d := by
      intro c d
      by_cases hc : c = j
      · subst hc; simp [Array.getD, hr.size, hlt]
      · rw [if_neg hc]
        simp only [Array.getD, Array.size_setIfInBounds]
        split
        · rename_i h
          show (listed.setIfInBounds j true)[c]'(by simpa using h) = listed[c]
          rw [Array.getElem_setIfInBounds (by simpa using h)]
          rw [if_neg (Ne.symm hc)]
        · rfl
    refine ⟨by simpa using hr.size, fun q hq => hr.here q (by simp at hq ⊢; rcases hq with h | h <;> simp [h]), fun c hc => ?_, ?_, ?_, fun c hc hl x hx => ?_⟩
    · rw [hget]
      by_cases hcj : c = j
      · rw [if_pos hcj]
        refine ⟨(fun h => by cases h), fun ⟨q, hq, hqc⟩ => ?_⟩
        exfalso
        rcases List.mem_append.1 hq with hq | hq
        · have := hasc.2.2 q hq (j, o, ry) List.mem_cons_self; have : q.1 < j := this; omega
        · have := hasc2.1 q hq; have : j < q.1 := this; omega
      · rw [if_neg hcj, hr.mem c hc]
        constructor
        · rintro ⟨q, hq, rfl⟩
          rcases List.mem_append.1 hq with hq | hq
          · exact ⟨q, by simp [hq], rfl⟩
          · rcases List.mem_cons.1 hq with rfl | hq
            · exact absurd rfl hcj
            · exact ⟨q, by simp [hq], rfl⟩
        · rintro ⟨q, hq, rfl⟩
          rcases List.mem_append.1 hq with hq | hq
          · exact ⟨q, by simp [hq], rfl⟩
          · exact ⟨q, by simp [hq], rfl⟩
    · exact List.pairwise_append.2 ⟨hasc.1, hasc2.2, fun q hq q' hq' => hasc.2.2 q hq q' (List.mem_cons_of_mem _ hq')⟩
    · exact List.pairwise_append.2 ⟨hfar.1, (List.pairwise_cons.1 hfar.2.1).2, fun q hq q' hq' => hfar.2.2 q hq q' (List.mem_cons_of_mem _ hq')⟩
    · rw [hget]
      rw [hget] at hl
      by_cases hxj : x = j
      · rw [if_pos hxj]
      · rw [if_neg hxj]
        by_cases hcj : c = j
        · subst hcj; exact hdone x hx
        · rw [if_neg hcj] at hl; exact hr.closed c hc hl x hx
end Go.V
namespace Go.V
set_option linter.unusedVariables false
set_option linter.unusedSimpArgs false
variable {w0 : World} {T N : Nat → Prop} {g : Gh} {w : World} {a : Act} {en en1 : List (Name × Entry)} {D D' : Name → Prop}

theorem CellRep.restrict {c : Cell} {v : Value} (h : CellRep D g w c v) (hc : CIn D' c) : CellRep D' g w c v := by
  cases c with
  | own r => exact ⟨hc r (by simp [Cell.refs]), h.2⟩
  | win r lo hi => exact ⟨hc r (by simp [Cell.refs]), h.2⟩
  | box n off => exact ⟨hc n (by simp [Cell.refs]), h.2⟩
  | elem r i off => exact ⟨hc r (by simp [Cell.refs]), h.2⟩
  | sub r i j => exact ⟨hc r (by simp [Cell.refs]), h.2⟩
  | kid r j e xs => exact ⟨h.1, hc r (by simp [Cell.refs]), h.2.2⟩
  | fn f caps =>
    obtain ⟨vs, e, k⟩ := h
    refine ⟨vs, e, ?_⟩
    have key : ∀ (l : List Name) (m : List Value), (∀ n ∈ l, D' n) → All2 (fun n u => D n ∧ (∃ b, g.loc n = .pointer (some ⟨b, 0, none⟩)) ∧ u = g.loc n) l m → All2 (fun n u => D' n ∧ (∃ b, g.loc n = .pointer (some ⟨b, 0, none⟩)) ∧ u = g.loc n) l m := by
      intro l
      induction l with
      | nil => intro m _ h; cases m with
        | nil => trivial
        | cons _ _ => exact h.elim
      | cons n l ih => intro m hl h; cases m with
        | nil => exact h.elim
        | cons u m => exact ⟨⟨hl n (by simp), h.1.2⟩, ih m (fun k hk => hl k (by simp [hk])) h.2⟩
    exact key caps _ hc k
  | undef => exact h
  | void => exact h
  | nil => exact h
  | int _ _ => exact h
  | bool _ => exact h
  | str _ => exact h
  | err _ => exact h
  | sh _ _ => exact h
  | shel _ _ _ => exact h
theorem cells_restrict : ∀ {cs : List Cell} {vs : List Value}, All2 (CellRep D g w) cs vs → (∀ c ∈ cs, CIn D' c) → All2 (CellRep D' g w) cs vs
  | [], [], _, _ => trivial
  | c :: cs, v :: vs, h, hc => ⟨h.1.restrict (hc c (by simp)), cells_restrict h.2 fun d hd => hc d (by simp [hd])⟩
theorem AVRep0.restrict {x : AV} {v : Value} (h : AVRep0 D g w x v) (hx : AVIn0 D' x) : AVRep0 D' g w x v := by
  cases x with
  | cell c => exact CellRep.restrict h hx
  | agg cs => obtain ⟨vs, e, k⟩ := h; exact ⟨vs, e, cells_restrict k hx⟩
  | tup _ => exact h
theorem AVRep.restrict {x : AV} {v : Value} (h : AVRep D g w x v) (hx : AVIn D' x) : AVRep D' g w x v := by
  cases x with
  | cell c => exact CellRep.restrict h hx
  | agg cs => obtain ⟨vs, e, k⟩ := h; exact ⟨vs, e, cells_restrict k hx⟩
  | tup l =>
    obtain ⟨vs, e, k⟩ := h
    refine ⟨vs, e, ?_⟩
    have key : ∀ (l : List AV) (m : List Value), (∀ v ∈ l, AVIn0 D' v) → All2 (AVRep0 D g w) l m → All2 (AVRep0 D' g w) l m := by
      intro l
      induction l with
      | nil => intro m _ h; cases m with
        | nil => trivial
        | cons _ _ => exact h.elim
      | cons n l ih => intro m hl h; cases m with
        | nil => exact h.elim
        | cons u m => exact ⟨h.1.restrict (hl n (by simp)), ih m (fun k hk => hl k (by simp [hk])) h.2⟩
    exact key l _ hx k
theorem MS.drop (h : MS w0 T N en1 g w) (hs : ∀ n e, find en n = some e → find en1 n = some e) (hb : BoxIn en) : MS w0 T N en g w := by
  have hd : ∀ n, dom en n → dom en1 n := fun n hn => by
    cases hf : find en n with
    | none => exact absurd hf hn
    | some e => unfold dom; rw [hs n e hf]; simp
  refine ⟨⟨fun n e hn => ?_, fun n m e f b hn hm => h.mem.apart n m e f b (hs n e hn) (hs m f hm), fun n e b hn => h.mem.topI n e b (hs n e hn), fun n m e f hn hm => h.mem.nests n m e f (hs n e hn) (hs m f hm), h.mem.old, fun n hn => h.mem.one n (hd n hn), fun n e b hn ht hb => ?_⟩,
    ⟨h.since.os, h.since.out, h.since.tape, h.since.size, h.since.mem, fun n e b hn => h.since.tops n e b (hs n e hn), fun n e b hn => h.since.nests n e b (hs n e hn), h.since.imm, fun n e b hn => h.since.born n e b (hs n e hn), h.since.soft⟩⟩
  rotate_left
  · obtain ⟨k1, k2, k3⟩ := h.mem.wood n e b (hs n e hn) ht hb
    exact ⟨k1, fun m f hm => k2 m f (hs m f hm), fun m f hmn hm => k3 m f hmn (hs m f hm)⟩
  have hr := h.mem.rep n e (hs n e hn)
  cases e with
  | gone => exact hr
  | fwd _ _ => exact hr
  | root _ _ _ => exact hr
  | tree _ _ => exact hr
  | frz _ _ => exact hr
  | box cs => obtain ⟨b, us, h1, h2, h3, h4⟩ := hr; exact ⟨b, us, h1, h2, h3, cells_restrict h4 (hb n cs hn)⟩
theorem Inv.drop {Z : List Tmp} {FN : List Name} {S S1 : St} (h : Inv w0 T N S1 g w a) (hs : Sub Z FN S S1) (hc : Closed S) : Inv w0 T N S g w a := by
  have hf : ∀ n e, find S.en n = some e → find S1.en n = some e := fun n e hn => by
    by_cases hF : n ∈ FN
    · rw [hs.no n hF] at hn; cases hn
    · rw [← hs.en n hF]; exact hn
  have hM := MS.drop ⟨h.mem, h.since⟩ hf hc.box
  refine ⟨hM.mem, hM.since, fun t => ?_, h.plain⟩
  rcases hs.tm t with k | ⟨_, k⟩
  · exact (show AVRep (dom S1.en) g w (S.tmp t) _ by rw [k]; exact h.tmps t).restrict (hc.tmp t)
  · rw [k]; exact trivial
end Go.V
namespace Go.V
set_option linter.unusedVariables false
set_option linter.unusedSimpArgs false
variable {P : Program} {w0 : World} {T N : Nat → Prop} {S : St} {g : Gh} {w w' : World} {a : Act} {o : Oper} {G : Env} {uid rid : Nat} {en : List (Name × Entry)}

def valsAV : List AV → AV | [v] => v | vs => .tup vs
def Meets (P : Program) (f : FuncId) (Fn' : Fn) : Prop :=
  (∃ fn c, P.funcs[f]? = some fn ∧ (fn.name == "runtime.NumGoroutine") = false ∧ fn.body = some c) ∧
  ∀ (w0 : World) (T N : Nat → Prop) (en : List (Name × Entry)) (g : Gh) (w : World) (uid : Name) (args : List AV) (vals : List Value) (b : Bound (psCs Fn'.ps)) (L : List Name) (r : Tup (outCs Fn'.ps Fn'.rs)),
    MS w0 T N en g w → All2 (AVRep (dom en) g w) args vals → (bindArgs (sharing Fn'.ps Fn'.rs) Fn'.ps args).Runs (find en) b L → (distinct b.used && b.ro.all fun n => (find b.used n).isNone) = true → Fn'.den b.args = some r →
    distinct (giveOut uid Fn'.ps Fn'.rs b.ptrs r).news = true → (∀ p ∈ (giveOut uid Fn'.ps Fn'.rs b.ptrs r).news, find en p.1 = none) →
    Calls P f vals.toArray w fun
      | .returned v, w' => ∃ g', MS w0 T N ((giveOut uid Fn'.ps Fn'.rs b.ptrs r).news ++ ((giveOut uid Fn'.ps Fn'.rs b.ptrs r).upds ++ b.used) ++ en) g' w' ∧
          Le (dom en) g w (dom ((giveOut uid Fn'.ps Fn'.rs b.ptrs r).news ++ ((giveOut uid Fn'.ps Fn'.rs b.ptrs r).upds ++ b.used) ++ en)) g' w' ∧
          AVRep (dom ((giveOut uid Fn'.ps Fn'.rs b.ptrs r).news ++ ((giveOut uid Fn'.ps Fn'.rs b.ptrs r).upds ++ b.used) ++ en)) g' w' (valsAV (giveOut uid Fn'.ps Fn'.rs b.ptrs r).vals) v
      | _, _ => False
def LentAt (w : World) : (ps : List PSig) → Tup (psCs ps) → List Value → Prop
  | [], _, vs => vs = []
  | .val agg c false :: ps, x, vs => ∃ v vs' us F, vs = v :: vs' ∧ isAgg agg v us ∧ Cs.Rep w c (Tup.hd c (psCs ps) x) us F ∧ LentAt w ps (Tup.tl c (psCs ps) x) vs'
  | .val _ _ true :: _, _, _ => False
  | .ptr .. :: _, _, _ => False
def MeetsT (P : Program) (f : FuncId) (Fn' : Fn) : Prop :=
  (∃ fn c, P.funcs[f]? = some fn ∧ (fn.name == "runtime.NumGoroutine") = false ∧ fn.body = some c) ∧
  ∀ (w : World) (uid : Name) (x : Tup (psCs Fn'.ps)) (vals : List Value) (r : Tup (outCs Fn'.ps Fn'.rs)), LentAt w Fn'.ps x vals → Fn'.den x = some r → distinct (giveOut uid Fn'.ps Fn'.rs [] r).news = true →
    Calls P f vals.toArray w fun
      | .returned v, w' => ∃ g' T' N', (∀ b, ¬ T' b) ∧ (∀ b, b < w.heap.size → ¬ N' b) ∧ MS w T' N' (giveOut uid Fn'.ps Fn'.rs [] r).news g' w' ∧ AVRep (dom (giveOut uid Fn'.ps Fn'.rs [] r).news) g' w' (valsAV (giveOut uid Fn'.ps Fn'.rs [] r).vals) v
      | _, _ => False
def Marks (P : Program) (f : FuncId) (M : MFn) : Prop :=
  (∃ fn c, P.funcs[f]? = some fn ∧ (fn.name == "runtime.NumGoroutine") = false ∧ fn.body = some c) ∧
  ∀ (w : World) (v : Value) (us : List Value) (x x' : M.cs.den) (F : List Nat) (R : List (List Value)) (k k' : Int), isAgg M.agg v us → Cs.TRep w M.cs x us F R → F.Nodup → (∀ b ∈ F, soft w b) → M.den x k = some (x', k') →
    Calls P f #[v, .int .i64 k] w fun
      | .returned r, w' => r = .int .i64 k' ∧ (∃ F', Cs.TRep w' M.cs x' us F' R ∧ F'.Nodup ∧ ∀ b ∈ F', b ∈ F ∨ w.heap.size ≤ b) ∧ (∀ b, b ∈ F ∨ w.heap.size ≤ b → soft w' b) ∧
          w'.os = w.os ∧ w'.output = w.output ∧ w'.tape = w.tape ∧ w.heap.size ≤ w'.heap.size ∧ ∀ b, b < w.heap.size → b ∉ F → w'.heap[b]? = w.heap[b]?
      | _, _ => False
structure Good (P : Program) (G : Env) : Prop where
  tis : Tis P G.ti
  eqs : Eqs P G.ti
  fns : ∀ f Fn', find G.fns f = some Fn' → Meets P f Fn'
  marks : ∀ f M, find G.marks f = some M → Marks P f M
  tfns : G.trees = true → ∀ f Fn', find G.fns f = some Fn' → lends Fn'.ps = true → okT Fn'.rs = true → MeetsT P f Fn'
theorem Inv.put (h : Inv w0 T N S g w a) {e : Eff} {v : Value} {g' : Gh} (hM : MS w0 T N (e.ents ++ S.en) g' w') (hle : Le (dom S.en) g w (dom (e.ents ++ S.en)) g' w') (hv : AVRep (dom (e.ents ++ S.en)) g' w' e.val v) (hd : ∀ d, o.dst = some d → d < a.tmps.size) :
    Inv w0 T N (S.put o.dst e) g' w' (a.put o.dst v) := by
  refine ⟨hM.mem, hM.since, fun t => ?_, ?_⟩
  · rw [St.tmp_put, St.en_put]
    unfold Act.put
    cases hdst : o.dst with
    | none => simpa using AVRep.mono hle (h.tmps t)
    | some d =>
      simp only [Option.some.injEq]
      by_cases hdt : d = t
      · subst hdt
        have hlt := hd d hdst
        simpa [Array.getD, hlt] using hv
      · rw [if_neg hdt]
        have : (a.tmps.setIfInBounds d v).getD t undef = a.tmps.getD t undef := by
          simp only [Array.getD, Array.size_setIfInBounds]
          split
          · rename_i hl
            show (a.tmps.setIfInBounds d v)[t]'(by simpa using hl) = a.tmps[t]
            rw [Array.getElem_setIfInBounds (by simpa using hl), if_neg hdt]
          · rfl
        rw [this]; exact AVRep.mono hle (h.tmps t)
  · unfold Act.put; cases o.dst <;> exact h.plain
theorem fine_wp (h : Inv w0 T N S g w a) {e : Eff} (hf : Fine P w0 T N S g w a o e) (hd : ∀ d, o.dst = some d → d < a.tmps.size) {K : Act → World → Prop} {Q : Exit → Act → World → Prop}
    (hK : ∀ v w' g', Inv w0 T N (S.put o.dst e) g' w' (a.put o.dst v) → Le (dom S.en) g w (dom (e.ents ++ S.en)) g' w' → K (a.put o.dst v) w') : o.wp P a w K Q := by
  obtain ⟨v, w', g', hdo, hM, hle, hv⟩ := hf
  have := hK v w' g' (h.put hM hle hv hd) hle
  unfold Oper.wp
  rcases hdo with hr | ⟨rfl, hr⟩
  · rw [hr]; exact this
  · rw [hr]; exact this
theorem Tup.hd_mk : ∀ (c : Cs) (r : List Cs) (x : c.den) (y : Tup r), Tup.hd c r (Tup.mk c r x y) = x
  | _, [], _, _ => rfl
  | _, _ :: _, _, _ => rfl
theorem Tup.tl_mk : ∀ (c : Cs) (r : List Cs) (x : c.den) (y : Tup r), Tup.tl c r (Tup.mk c r x y) = y
  | _, [], _, _ => rfl
  | _, _ :: _, _, _ => rfl
theorem Rd.bind_runs {α β : Type} {F : Name → Option Entry} {f : α → Rd β} {a : α} {b : β} : ∀ {x : Rd α} {L1 L2 : List Name}, x.Runs F a L1 → (f a).Runs F b L2 → (x.bind f).Runs F b (L1 ++ L2)
  | .ret a', L1, L2, ⟨h1, h2⟩, k => by subst h1; subst h2; exact k
  | .fail, _, _, h, _ => h.elim
  | .get n g, L1, L2, ⟨L', h1, h2⟩, k => by subst h1; exact ⟨L' ++ L2, rfl, Rd.bind_runs h2 k⟩
  | .opt o g, L1, L2, ⟨b', h1, h2⟩, k => ⟨b', h1, Rd.bind_runs h2 k⟩
end Go.V

