/- The law FnRetries: part of the proof that for every input it returns true. No condition. -/
import Derived.Test.YtdhcmckfgnommaaGreatFnRetriesB
namespace Go.V.W
set_option linter.unusedVariables false
set_option linter.unusedSimpArgs false
abbrev yard : List UInt8 := [121, 97, 114, 100]
abbrev other : List UInt8 := [111, 116, 104, 101, 114]
abbrev nameO : List Int := [1, 3, 1, 1, 1]
abbrev setQ : Pdu := (163, 5, 0, 0, [(nameO, 4, 0, other, [])])
theorem setQ_ok : pPdu setQ = true := by kernel_rfl
theorem setQ_msg : msgB yard setQ ≠ [] := by
 have h : (msgB yard setQ).length = 40 := by kernel_rfl
 intro e
 rw [e] at h; cases h
theorem bind_of {α β : Type} {o : Option α} {a : α} {k : α → Option β} {r : Option β} (h : o = some a) (hk : k a = r) : o.bind k = r := by rw [h]; exact hk
/-! ### the name is set -/
def nmB (b : Bridge) (n : List UInt8) : Bridge := (b.1, n, b.2.2.1, b.2.2.2.1, b.2.2.2.2.1, b.2.2.2.2.2.1, b.2.2.2.2.2.2.1, b.2.2.2.2.2.2.2.1, b.2.2.2.2.2.2.2.2.1, b.2.2.2.2.2.2.2.2.2.1, b.2.2.2.2.2.2.2.2.2.2)
theorem setOneName {b : Bridge} (h : BOk b) : impl_Bridge_set b (nameO, 4, 0, other, []) = some (nmB b other, 0) := by
 have hc : canP b nameO = true := by
  unfold canP
  rw [show numP nameO 1 1 [1] = true from by decide]; rfl
 unfold impl_Bridge_set
 rw [canB h.le (by show 5 ≤ 1048576; omega), Option.bind_some]
 rw [show canP b ((nameO, 4, 0, other, []) : Bind).1 = true from hc, cond_true]
 rfl
theorem setAllName {b : Bridge} (h : BOk b) : impl_SetAll b setQ.2.2.2.2 = some (turnV (nmB b other), 0, 0) ∧ BOk (turnV (nmB b other)) ∧ (turnV (nmB b other)).2.1 = other := by
 have hs := setOneName h
 have s := h.sok
 have hso : SOk (nmB b other) := ⟨s.id, by show 5 ≤ 10; omega, s.n1, s.n6, s.p, s.f, s.c, s.q, s.v, s.s, s.i, s.h⟩
 obtain ⟨t1, t2, t3, t4, _⟩ := turnE hso h.v
 refine ⟨?_, t2, t4⟩
 have hs' : impl_Bridge_set (b.1, b.2.1, b.2.2.1, b.2.2.2.1, b.2.2.2.2.1, b.2.2.2.2.2.1, b.2.2.2.2.2.2.1, b.2.2.2.2.2.2.2.1, b.2.2.2.2.2.2.2.2.1, b.2.2.2.2.2.2.2.2.2.1, b.2.2.2.2.2.2.2.2.2.2) (nameO, 4, 0, other, []) = some (nmB b other, 0) := hs
 have hv6 := s.v; have hq := s.q; have hn6 := s.n6
 have hv : impl_VtabOk (b.2.2.2.2.1, b.2.2.2.2.2.1) (b.2.2.1.length : Int) = some true := by rw [vtabT _ (by show b.2.2.2.2.1.length < _; omega) (by show b.2.2.2.2.2.1.length < _; omega), h.v]
 unfold impl_SetAll
 rw [copyBridge h.le, Option.bind_some, show ((setQ.2.2.2.2.length : Int) == 0) = false from rfl, cond_false, bridgeT h.w, Option.bind_some, h.ok, Bool.not_true, cond_false]
 refine bind_of (loop_in (y := ?y) ?h1 (loop_end (b := Sum.inl ?d) ?h2)) ?h3
 case h1 =>
  dsimp only
  unfold impl_SetAll_l0
  rw [show decide ((0 : Int) < (setQ.2.2.2.2.length : Int)) = true from rfl, cond_true, show at? setQ.2.2.2.2 0 = some (nameO, 4, 0, other, []) from rfl, Option.bind_some, show cut setQ.2.2.2.2 0 0 = some ([] : List Bind) from rfl, Option.bind_some]
  refine bind_of (loop_end (b := Sum.inl ?d2) ?h4) ?h5
  case h4 =>
   dsimp only
   unfold impl_SetAll_l2
   rw [show decide ((0 : Int) < (([] : List Bind).length : Int)) = false from rfl, cond_false]
  case h5 =>
   rw [Sum.elim_inl, hs', Option.bind_some]
   rfl
 case h2 =>
  dsimp only
  unfold impl_SetAll_l0
  rw [show decide ((w64 (0 + 1)) < (setQ.2.2.2.2.length : Int)) = false from rfl, cond_false]
 case h3 =>
  rw [Sum.elim_inl]
  show ((impl_VtabOk (b.2.2.2.2.1, b.2.2.2.2.2.1) (b.2.2.1.length : Int)).bind fun t63 => cond (!t63) _ ((impl_Bridge_turn (nmB b other)).bind fun t69 => some (t69, 0, 0))) = _
  rw [hv, Option.bind_some, Bool.not_true, cond_false, t1, Option.bind_some]
theorem getName {b : Bridge} (h : BOk b) : impl_MibGet b nameO = some (4, 0, b.2.1, []) := by
 obtain ⟨e, hx⟩ := getE h (o := nameO) (by show 5 < _; omega)
 have hm : ((nameO, 4, 0, b.2.1, []) : Bind) ∈ mib b := by
  unfold mib mib5
  simp
 rw [e]
 rcases hx with ⟨x, h1, h2, h3⟩ | ⟨h1, _⟩
 · have := mib_one h h1 hm h2
   rw [h3, this]
 · exact absurd rfl (h1 _ hm)
theorem replySet {b : Bridge} (h : BOk b) : replyV b setQ = (turnV (nmB b other), (162, 5, 0, 0, setQ.2.2.2.2), true) := by
 have hset : setV b setQ.2.2.2.2 = (turnV (nmB b other), 0, 0) := by unfold setV; rw [(setAllName h).1]; rfl
 have hf : fitP (162, 5, 0, 0, setQ.2.2.2.2) = true := by kernel_rfl
 have hask : askP b setQ = true := by unfold askP; rw [h.ok, setQ_ok]; rfl
 have hans : ansV b setQ = (turnV (nmB b other), 162, 5, 0, 0, setQ.2.2.2.2) := by
  show ((setV b setQ.2.2.2.2).1, 162, (5 : Int), (setV b setQ.2.2.2.2).2.1, (setV b setQ.2.2.2.2).2.2, setQ.2.2.2.2) = _
  rw [hset]
 have hdone : doneV b setQ = (turnV (nmB b other), 162, 5, 0, 0, setQ.2.2.2.2) := by
  unfold doneV
  rw [hans, hf]; rfl
 unfold replyV
 rw [hask, hdone]; rfl
theorem lateQ : lateV setQ = (162, 5, 6, 1, setQ.2.2.2.2) := by
 have hf : fitP (162, 5, 6, 1, setQ.2.2.2.2) = true := by kernel_rfl
 show cond (fitP (162, 5, 6, 1, setQ.2.2.2.2)) _ _ = _
 rw [hf]; rfl
/-! ### one work -/
theorem workX {a : Agent} (h : AInv a) {k : Nat} (hk : k < (aJobs a).length) : impl_Work a (k : Int) = some (workV a k (aJobs a)[k]) := by
 have hn := h.n
 have hj := h.j _ (List.getElem_mem hk)
 unfold impl_Work
 rw [copyAgent h.ale, Option.bind_some, agentT h.awf, Option.bind_some, h.ok, Bool.not_true, cond_false]
 have e : w64 ((a.2.2.2.2.2.2.2.2.2.2.2.2.1.length : Int) - 1) = ((aJobs a).length : Int) - 1 := w64_id (by show -9223372036854775808 ≤ ((aJobs a).length : Int) - 1; omega) (by show ((aJobs a).length : Int) - 1 ≤ _; omega)
 rw [e, inT, Option.bind_some, inP (by omega) (by omega), Option.bind_some, Bool.not_true, cond_false, workT h.b.w h.ale hk hj.jwf hj.byt, Option.bind_some]
abbrev S17r := Int × Int × Int × List UInt8 × Int × Int × Int × Int × Int × List UInt8 × Int × Int × List Pt × List Fent × List Vrow × List Int × List Job
noncomputable def stepR (T : Bridge × Int) (m : Int) (z : S17r) := laws_FnRetries_l0 T m z.1 z.2.1 z.2.2.1 z.2.2.2.1 z.2.2.2.2.1 z.2.2.2.2.2.1 z.2.2.2.2.2.2.1 z.2.2.2.2.2.2.2.1 z.2.2.2.2.2.2.2.2.1 z.2.2.2.2.2.2.2.2.2.1 z.2.2.2.2.2.2.2.2.2.2.1 z.2.2.2.2.2.2.2.2.2.2.2.1 z.2.2.2.2.2.2.2.2.2.2.2.2.1 z.2.2.2.2.2.2.2.2.2.2.2.2.2.1 z.2.2.2.2.2.2.2.2.2.2.2.2.2.2.1 z.2.2.2.2.2.2.2.2.2.2.2.2.2.2.2.1 z.2.2.2.2.2.2.2.2.2.2.2.2.2.2.2.2
def st (b : Bridge) (w : List UInt8) (l : List Job) (lo la t i : Int) : S17r := (t, i, b.1, b.2.1, b.2.2.2.2.2.2.1, b.2.2.2.2.2.2.2.1, b.2.2.2.2.2.2.2.2.1, b.2.2.2.2.2.2.2.2.2.1, b.2.2.2.2.2.2.2.2.2.2, w, lo, la, b.2.2.1, b.2.2.2.1, b.2.2.2.2.1, b.2.2.2.2.2.1, l)
theorem stayR {T : Bridge × Int} {m : Int} {b b' : Bridge} {w : List UInt8} {j j' : Job} {lo la t : Int} {i : Nat} (hi : i < 60) (hq : (cond (j.2.2.1 == 2) (some (decide (t < m.tmod 6))) (some false)) = some false) (hw : impl_Work (mkA b w [j] lo la) 0 = some (mkA b' w [j'] lo la, [])) :
 stepR T m (st b w [j] lo la t i) = some (.inl (st b' w [j'] lo la t ((i + 1 : Nat) : Int))) := by
 show laws_FnRetries_l0 T m t (i : Int) b.1 b.2.1 b.2.2.2.2.2.2.1 b.2.2.2.2.2.2.2.1 b.2.2.2.2.2.2.2.2.1 b.2.2.2.2.2.2.2.2.2.1 b.2.2.2.2.2.2.2.2.2.2 w lo la b.2.2.1 b.2.2.2.1 b.2.2.2.2.1 b.2.2.2.2.2.1 [j] = _
 unfold laws_FnRetries_l0
 have hw' : impl_Work (b.1, b.2.1, b.2.2.1, b.2.2.2.1, b.2.2.2.2.1, b.2.2.2.2.2.1, b.2.2.2.2.2.2.1, b.2.2.2.2.2.2.2.1, b.2.2.2.2.2.2.2.2.1, b.2.2.2.2.2.2.2.2.2.1, b.2.2.2.2.2.2.2.2.2.2, w, [j], lo, la) 0 = some (mkA b' w [j'] lo la, []) := hw
 rw [dlt (show (i : Int) < 60 by omega), cond_true, show decide ((([j] : List Job).length : Int) > 0) = true from rfl, Option.bind_some, cond_true, show ix ([j] : List Job).length 0 = some 0 from rfl, Option.bind_some, show ([j] : List Job)[0]? = some j from rfl, Option.bind_some, hq, Option.bind_some, cond_false, hw', Option.bind_some, w64_nat (by omega)]
 rfl
theorem tickR {T : Bridge × Int} {m : Int} {b b1 b' : Bridge} {w : List UInt8} {j j' : Job} {lo la : Int} {t i : Nat} (hi : i < 60) (ht : t < 10) (hq : (cond (j.2.2.1 == 2) (some (decide ((t : Int) < m.tmod 6))) (some false)) = some true) (hk : impl_Tick b = some b1) (hw : impl_Work (mkA b1 w [j] lo la) 0 = some (mkA b' w [j'] lo la, [])) :
 stepR T m (st b w [j] lo la t i) = some (.inl (st b' w [j'] lo la ((t + 1 : Nat) : Int) ((i + 1 : Nat) : Int))) := by
 show laws_FnRetries_l0 T m (t : Int) (i : Int) b.1 b.2.1 b.2.2.2.2.2.2.1 b.2.2.2.2.2.2.2.1 b.2.2.2.2.2.2.2.2.1 b.2.2.2.2.2.2.2.2.2.1 b.2.2.2.2.2.2.2.2.2.2 w lo la b.2.2.1 b.2.2.2.1 b.2.2.2.2.1 b.2.2.2.2.2.1 [j] = _
 unfold laws_FnRetries_l0
 have hk' : impl_Tick (b.1, b.2.1, b.2.2.1, b.2.2.2.1, b.2.2.2.2.1, b.2.2.2.2.2.1, b.2.2.2.2.2.2.1, b.2.2.2.2.2.2.2.1, b.2.2.2.2.2.2.2.2.1, b.2.2.2.2.2.2.2.2.2.1, b.2.2.2.2.2.2.2.2.2.2) = some b1 := hk
 have hw' : impl_Work (b1.1, b1.2.1, b1.2.2.1, b1.2.2.2.1, b1.2.2.2.2.1, b1.2.2.2.2.2.1, b1.2.2.2.2.2.2.1, b1.2.2.2.2.2.2.2.1, b1.2.2.2.2.2.2.2.2.1, b1.2.2.2.2.2.2.2.2.2.1, b1.2.2.2.2.2.2.2.2.2.2, w, [j], lo, la) 0 = some (mkA b' w [j'] lo la, []) := hw
 rw [dlt (show (i : Int) < 60 by omega), cond_true, show decide ((([j] : List Job).length : Int) > 0) = true from rfl, Option.bind_some, cond_true, show ix ([j] : List Job).length 0 = some 0 from rfl, Option.bind_some, show ([j] : List Job)[0]? = some j from rfl, Option.bind_some, hq, Option.bind_some, cond_true, hk', Option.bind_some, hw', Option.bind_some, w64_nat (by omega), w64_nat (by omega)]
 rfl
theorem lateR {T : Bridge × Int} {m : Int} {b b1 b' : Bridge} {w : List UInt8} {j : Job} {lo la id : Int} {i : Nat} (hi : i < 60) (hm : m.tmod 6 > 3) (hq : (cond (j.2.2.1 == 2) (some (decide ((3 : Int) < m.tmod 6))) (some false)) = some true) (hk : impl_Tick b = some b1) (hw : impl_Work (mkA b1 w [j] lo la) 0 = some (mkA b' w [] lo la, [(id, lateV setQ)])) (hb : BOk b') (hn : b'.2.1 = T.1.2.1) :
 stepR T m (st b w [j] lo la 3 i) = some (.inr (.inr true)) := by
 show laws_FnRetries_l0 T m 3 (i : Int) b.1 b.2.1 b.2.2.2.2.2.2.1 b.2.2.2.2.2.2.2.1 b.2.2.2.2.2.2.2.2.1 b.2.2.2.2.2.2.2.2.2.1 b.2.2.2.2.2.2.2.2.2.2 w lo la b.2.2.1 b.2.2.2.1 b.2.2.2.2.1 b.2.2.2.2.2.1 [j] = _
 unfold laws_FnRetries_l0
 have hk' : impl_Tick (b.1, b.2.1, b.2.2.1, b.2.2.2.1, b.2.2.2.2.1, b.2.2.2.2.2.1, b.2.2.2.2.2.2.1, b.2.2.2.2.2.2.2.1, b.2.2.2.2.2.2.2.2.1, b.2.2.2.2.2.2.2.2.2.1, b.2.2.2.2.2.2.2.2.2.2) = some b1 := hk
 have hw' : impl_Work (b1.1, b1.2.1, b1.2.2.1, b1.2.2.2.1, b1.2.2.2.2.1, b1.2.2.2.2.2.1, b1.2.2.2.2.2.2.1, b1.2.2.2.2.2.2.2.1, b1.2.2.2.2.2.2.2.2.1, b1.2.2.2.2.2.2.2.2.2.1, b1.2.2.2.2.2.2.2.2.2.2, w, [j], lo, la) 0 = some (mkA b' w [] lo la, [(id, lateV setQ)]) := hw
 rw [dlt (show (i : Int) < 60 by omega), cond_true, show decide ((([j] : List Job).length : Int) > 0) = true from rfl, Option.bind_some, cond_true, show ix ([j] : List Job).length 0 = some 0 from rfl, Option.bind_some, show ([j] : List Job)[0]? = some j from rfl, Option.bind_some, hq, Option.bind_some, cond_true, hk', Option.bind_some, hw', Option.bind_some]
 have hg : impl_MibGet (b'.1, b'.2.1, b'.2.2.1, b'.2.2.2.1, b'.2.2.2.2.1, b'.2.2.2.2.2.1, b'.2.2.2.2.2.2.1, b'.2.2.2.2.2.2.2.1, b'.2.2.2.2.2.2.2.2.1, b'.2.2.2.2.2.2.2.2.2.1, b'.2.2.2.2.2.2.2.2.2.2) nameO = some (4, 0, b'.2.1, []) := getName hb
 show (cond ((([(id, lateV setQ)] : List Done).length : Int) == 1) ((impl_MibGet (b'.1, b'.2.1, b'.2.2.1, b'.2.2.2.1, b'.2.2.2.2.1, b'.2.2.2.2.2.1, b'.2.2.2.2.2.2.1, b'.2.2.2.2.2.2.2.1, b'.2.2.2.2.2.2.2.2.1, b'.2.2.2.2.2.2.2.2.2.1, b'.2.2.2.2.2.2.2.2.2.2) nameO).bind _) _) = _
 rw [show ((([(id, lateV setQ)] : List Done).length : Int) == 1) = true from rfl, cond_true, hg, Option.bind_some, decide_eq_true hm, cond_true, show at? [(id, lateV setQ)] 0 = some (id, lateV setQ) from rfl, Option.bind_some, lateQ, hn]
 simp only [beq_self_eq_true, cond_true, Option.bind_some]
 rfl
theorem setR {T : Bridge × Int} {m : Int} {b : Bridge} {w : List UInt8} {j : Job} {lo la id t : Int} {i : Nat} (hi : i < 60) (hm : ¬ m.tmod 6 > 3) (ht : t = m.tmod 6) (hq : (cond (j.2.2.1 == 2) (some (decide (t < m.tmod 6))) (some false)) = some false) (hb : BOk b) (hw : impl_Work (mkA b w [j] lo la) 0 = some (mkA (turnV (nmB b other)) w [] lo la, [(id, (162, 5, 0, 0, setQ.2.2.2.2))])) :
 stepR T m (st b w [j] lo la t i) = some (.inr (.inr true)) := by
 obtain ⟨_, h2, h3⟩ := setAllName hb
 generalize turnV (nmB b other) = b' at hw h2 h3
 show laws_FnRetries_l0 T m t (i : Int) b.1 b.2.1 b.2.2.2.2.2.2.1 b.2.2.2.2.2.2.2.1 b.2.2.2.2.2.2.2.2.1 b.2.2.2.2.2.2.2.2.2.1 b.2.2.2.2.2.2.2.2.2.2 w lo la b.2.2.1 b.2.2.2.1 b.2.2.2.2.1 b.2.2.2.2.2.1 [j] = _
 unfold laws_FnRetries_l0
 have hw' : impl_Work (b.1, b.2.1, b.2.2.1, b.2.2.2.1, b.2.2.2.2.1, b.2.2.2.2.2.1, b.2.2.2.2.2.2.1, b.2.2.2.2.2.2.2.1, b.2.2.2.2.2.2.2.2.1, b.2.2.2.2.2.2.2.2.2.1, b.2.2.2.2.2.2.2.2.2.2, w, [j], lo, la) 0 = some (mkA b' w [] lo la, [(id, (162, 5, 0, 0, setQ.2.2.2.2))]) := hw
 rw [dlt (show (i : Int) < 60 by omega), cond_true, show decide ((([j] : List Job).length : Int) > 0) = true from rfl, Option.bind_some, cond_true, show ix ([j] : List Job).length 0 = some 0 from rfl, Option.bind_some, show ([j] : List Job)[0]? = some j from rfl, Option.bind_some, hq, Option.bind_some, cond_false, hw', Option.bind_some]
 have hg : impl_MibGet (b'.1, b'.2.1, b'.2.2.1, b'.2.2.2.1, b'.2.2.2.2.1, b'.2.2.2.2.2.1, b'.2.2.2.2.2.2.1, b'.2.2.2.2.2.2.2.1, b'.2.2.2.2.2.2.2.2.1, b'.2.2.2.2.2.2.2.2.2.1, b'.2.2.2.2.2.2.2.2.2.2) nameO = some (4, 0, b'.2.1, []) := getName h2
 show (cond ((([(id, (162, 5, 0, 0, setQ.2.2.2.2))] : List Done).length : Int) == 1) ((impl_MibGet (b'.1, b'.2.1, b'.2.2.1, b'.2.2.2.1, b'.2.2.2.2.1, b'.2.2.2.2.2.1, b'.2.2.2.2.2.2.1, b'.2.2.2.2.2.2.2.1, b'.2.2.2.2.2.2.2.2.1, b'.2.2.2.2.2.2.2.2.2.1, b'.2.2.2.2.2.2.2.2.2.2) nameO).bind _) _) = _
 rw [show ((([(id, (162, 5, 0, 0, setQ.2.2.2.2))] : List Done).length : Int) == 1) = true from rfl, cond_true, hg, Option.bind_some, decide_eq_false hm, cond_false, show at? [(id, ((162, 5, 0, 0, setQ.2.2.2.2) : Pdu))] 0 = some (id, (162, 5, 0, 0, setQ.2.2.2.2)) from rfl, Option.bind_some, h3, ht]
 simp only [beq_self_eq_true, cond_true, Option.bind_some]
/-! ### again and again -/
abbrev jobR (ph : Int) (s : Bridge) (at' tr : Int) : Job := mkJ 1 (msgB yard setQ) ph setQ s at' tr
theorem jobR_inv {ph at' tr : Int} {s : Bridge} (h : BOk s) (h1 : pIn ph 0 2 = true) (h2 : pIn at' 0 1 = true) (h3 : pIn tr 0 3 = true) : JInv (jobR ph s at' tr) :=
 ⟨byt_msg yard setQ, by show (msgB yard setQ).length ≤ 1048576; rw [show (msgB yard setQ).length = 40 from by kernel_rfl]; omega, h1, h2, h3, .inr ⟨setQ_ok, rfl, h⟩, pdu_xs setQ_ok, h.w, h.le⟩
theorem ainvR {b : Bridge} (h : BOk b) {j : Job} (hj : JInv j) (h1 : j.1 = 1) : AInv (mkA b yard [j] 0 1) :=
 ⟨h, by show 4 ≤ 20; omega, by show 1 ≤ 6; omega, rfl, rfl, (fun x hx => by rw [List.mem_singleton.1 hx, h1]; rfl), List.pairwise_singleton _ _, (fun x hx => by rw [List.mem_singleton.1 hx]; exact hj)⟩
theorem workR {b : Bridge} (h : BOk b) {j : Job} (hj : JInv j) (h1 : j.1 = 1) : impl_Work (mkA b yard [j] 0 1) 0 = some (workV (mkA b yard [j] 0 1) 0 j) := workX (k := 0) (ainvR h hj h1) (by show 0 < 1; omega)
theorem workV_stay {b b' : Bridge} {w : List UInt8} {j j' : Job} {lo la : Int} (h : jobStep w b j = (b', .stay j')) : workV (mkA b w [j] lo la) 0 j = (mkA b' w [j'] lo la, []) := by
 have h' : jobStep (aW (mkA b w [j] lo la)) (aB (mkA b w [j] lo la)) j = (b', .stay j') := h
 unfold workV
 rw [h']; rfl
theorem workV_gone {b b' : Bridge} {w : List UInt8} {j : Job} {d : List Done} {lo la : Int} (h : jobStep w b j = (b', .gone d)) : workV (mkA b w [j] lo la) 0 j = (mkA b' w [] lo la, d) := by
 have h' : jobStep (aW (mkA b w [j] lo la)) (aB (mkA b w [j] lo la)) j = (b', .gone d) := h
 unfold workV
 rw [h']; rfl
theorem runR {T : Bridge × Int} {m : Int} {n : Nat} (hm : m.tmod 6 = (n : Int)) (hn : n < 6) : ∀ (k t : Nat) (b : Bridge) (i : Nat), t + k = 4 → t ≤ 3 → t ≤ n → i ≤ 1 + 3 * t → BOk b → b.2.1 = T.1.2.1 → b.2.2.2.2.2.2.2.2.2.2 = 7 + (t : Int) → loop (stepR T m) (st b yard [jobR 1 b 0 t] 0 1 t i) = some (.inr true)
 | 0, t, b, i, h1, h2, h3, h4, h5, h6, h7 => by omega
 | k + 1, t, b, i, h1, h2, h3, h4, h5, h6, h7 => by
  have ht : pIn (t : Int) 0 3 = true := inP (by omega) (by omega)
  have s1 : jobStep yard b (jobR 1 b 0 t) = (b, .stay (jobR 1 b 1 t)) := rfl
  have s2 : jobStep yard b (jobR 1 b 1 t) = (b, .stay (jobR 2 b 1 t)) := rfl
  have w1 := (workR h5 (jobR_inv (ph := 1) (at' := 0) h5 rfl rfl ht) rfl).trans (congrArg some (workV_stay s1))
  have w2 := (workR h5 (jobR_inv (ph := 1) (at' := 1) h5 rfl rfl ht) rfl).trans (congrArg some (workV_stay s2))
  refine loop_in (stayR (by omega) rfl w1) (loop_in (stayR (by omega) rfl w2) ?_)
  have hJ := jobR_inv (ph := 2) (at' := 1) h5 rfl rfl ht
  by_cases hlt : t < n
  · obtain ⟨k1, k2, k3, _, _, k4⟩ := tickT h5
    rw [h7, show moreV (7 + (t : Int)) = 8 + (t : Int) from by unfold moreV min2; rw [w64_id (by omega) (by omega)]; split <;> omega] at k4
    have hq : (cond ((jobR 2 b 1 t).2.2.1 == 2) (some (decide ((t : Int) < m.tmod 6))) (some false)) = some true := by
     show some (decide ((t : Int) < m.tmod 6)) = _
     rw [decide_eq_true (by rw [hm]; omega)]
    have hv : ((tickV b).2.2.2.2.2.2.2.2.2.2 == (jB (jobR 2 b 1 t)).2.2.2.2.2.2.2.2.2.2) = false := by
     show ((tickV b).2.2.2.2.2.2.2.2.2.2 == b.2.2.2.2.2.2.2.2.2.2) = false
     rw [k4, h7]; exact beq_eq_false_iff_ne.2 (by omega)
    have hstep : jobStep yard (tickV b) (jobR 2 b 1 t) = cond (decide ((t : Int) ≥ 3)) (tickV b, .gone [(1, lateV setQ)]) (tickV b, .stay (jobR 1 (tickV b) 0 (w64 ((t : Int) + 1)))) := by
     show cond ((tickV b).2.2.2.2.2.2.2.2.2.2 == (jB (jobR 2 b 1 t)).2.2.2.2.2.2.2.2.2.2) _ _ = _
     rw [hv]; rfl
    have w3 := workR k2 hJ rfl
    by_cases h3' : t = 3
    · subst h3'
      have e : jobStep yard (tickV b) (jobR 2 b 1 ((3 : Nat) : Int)) = (tickV b, .gone [(1, lateV setQ)]) := hstep
      exact loop_end (lateR (by omega) (by rw [hm]; omega) hq k1 (w3.trans (congrArg some (workV_gone e))) k2 (by rw [k3]; exact h6))
    · have e : jobStep yard (tickV b) (jobR 2 b 1 (t : Int)) = (tickV b, .stay (jobR 1 (tickV b) 0 ((t + 1 : Nat) : Int))) := by
       rw [hstep, decide_eq_false (by omega), cond_false, w64_nat (by omega)]
      exact loop_in (tickR (by omega) (by omega) hq k1 (w3.trans (congrArg some (workV_stay e)))) (runR hm hn k (t + 1) (tickV b) (i + 1 + 1 + 1) (by omega) (by omega) (by omega) (by omega) k2 (by rw [k3]; exact h6) (by rw [k4]; omega))
  · have htn : t = n := by omega
    have hq : (cond ((jobR 2 b 1 t).2.2.1 == 2) (some (decide ((t : Int) < m.tmod 6))) (some false)) = some false := by
     show some (decide ((t : Int) < m.tmod 6)) = _
     rw [decide_eq_false (by rw [hm]; omega)]
    have hstep : jobStep yard b (jobR 2 b 1 t) = (turnV (nmB b other), .gone [(1, (162, 5, 0, 0, setQ.2.2.2.2))]) := by
     show cond (b.2.2.2.2.2.2.2.2.2.2 == b.2.2.2.2.2.2.2.2.2.2) ((replyV b setQ).1, Fate.gone [(1, (replyV b setQ).2.1)]) _ = _
     rw [beq_self_eq_true, cond_true, replySet h5]
    exact loop_end (setR (by omega) (by rw [hm]; omega) (by rw [hm]; omega) hq h5 ((workR h5 hJ rfl).trans (congrArg some (workV_gone hstep))))
theorem fnRetries_pure (code : List Int) (hw : Cs.wf (.one (.sl (.one (.int .u8)))) code) : laws_FnRetries code = some true := by
 unfold laws_FnRetries laws_big
 by_cases hbig : (code.length : Int) > 1048576
 · simp only [decide_eq_true hbig, Option.bind_some, cond_true]
 simp only [decide_eq_false hbig, Option.bind_some, cond_false]
 obtain ⟨c0, e0, w0⟩ := newD (code := code) (by omega)
 obtain ⟨c1, b, e1, w1, hb, hp, hz⟩ := bridgeZ w0
 have hB := bok hb hp
 have hn1 := hB.n1
 obtain ⟨c2, r, e2, w2, _⟩ := belowN w1 (n := b.2.2.1.length) (by omega)
 have hd : spec_DrawBridge code = some (b, (r : Int)) := by
  unfold spec_DrawBridge
  rw [e0, Option.bind_some, e1, Option.bind_some]
  simp only
  rw [e2, Option.bind_some]
 rw [hd, Option.bind_some]
 simp only
 have s := hB.sok
 obtain ⟨q1, q2, q3, q4, q5⟩ := counts_parts (bok_parts hp).1
 have h7 : SOk (b.1, b.2.1, b.2.2.1, b.2.2.2.1, b.2.2.2.2.1, b.2.2.2.2.2.1, b.2.2.2.2.2.2.1, b.2.2.2.2.2.2.2.1, b.2.2.2.2.2.2.2.2.1, b.2.2.2.2.2.2.2.2.2.1, 7) := ⟨s.id, s.name, s.n1, s.n6, s.p, s.f, (by unfold pCounts; simp only [Bool.and_eq_true]; exact ⟨q1, q2, q3, q4, rfl⟩), s.q, s.v, s.s, s.i, s.h⟩
 have hB7 := bok (bwf_of h7 h7.le) (h7.ok hB.v)
 rw [agentNewT hB7 (by show 4 ≤ 20; omega), Option.bind_some, putMsgT yard (pdu_xs setQ_ok), Option.bind_some]
 have hlen : (msgB yard setQ).length = 40 := by kernel_rfl
 rw [arriveT (new_inv hB7 (by show 4 ≤ 20; omega)) (by show (msgB yard setQ).length ≤ 1048576; omega) (by show 0 < 6; omega) (by show (0 : Int) < 1000000; omega), Option.bind_some]
 obtain ⟨a, ha⟩ := atE (bytesW hw) (by omega) (i := 2) (by omega) (by omega)
 rw [ha, Option.bind_some]
 have hm : (a : Int).tmod 6 = ((a % 6 : Nat) : Int) := by rw [Int.tmod_eq_emod_of_nonneg (by omega)]; omega
 generalize hB' : ((b.1, b.2.1, b.2.2.1, b.2.2.2.1, b.2.2.2.2.1, b.2.2.2.2.2.1, b.2.2.2.2.2.2.1, b.2.2.2.2.2.2.2.1, b.2.2.2.2.2.2.2.2.1, b.2.2.2.2.2.2.2.2.2.1, 7) : Bridge) = b7 at hB7 h7
 have hnm : b7.2.1 = b.2.1 := by rw [← hB']
 have hv7 : b7.2.2.2.2.2.2.2.2.2.2 = 7 := by rw [← hB']
 have hv := (msgV_back setQ_msg).1
 have hs : jobStep yard b7 (newJ 1 (msgB yard setQ)) = (b7, .stay (jobR 1 b7 0 ((0 : Nat) : Int))) := by
  unfold jobStep
  rw [show ((newJ 1 (msgB yard setQ)).2.2.1 == 0) = true from rfl, cond_true, show msgV yard (newJ 1 (msgB yard setQ)).2.1 = (setQ, 0) from hv]
  rfl
 have w1 := (workR hB7 (newJ_inv 1 (byt_msg yard setQ) (by show (msgB yard setQ).length ≤ 1048576; omega)) rfl).trans (congrArg some (workV_stay hs))
 have hrun : loop (stepR (b, (r : Int)) (a : Int)) (st b7 yard [newJ 1 (msgB yard setQ)] 0 1 ((0 : Nat) : Int) ((0 : Nat) : Int)) = some (.inr true) :=
  loop_in (stayR (by omega) rfl w1) (runR hm (Nat.mod_lt _ (by omega)) 4 0 b7 1 (by omega) (by omega) (by omega) (by omega) hB7 hnm (by rw [hv7]; rfl))
 exact bind_of hrun rfl
end Go.V.W

