/- The law FnQuiet: part of the proof that for every input it returns true. No condition. -/
import Derived.Test.YtdhcmckfgnommaaGreatFnQuietB
namespace Go.V.W
set_option linter.unusedVariables false
set_option linter.unusedSimpArgs false
abbrev yard : List UInt8 := [121, 97, 114, 100]
theorem runV_nil (n : Nat) (b : Bridge) (w : List UInt8) (lo la : Int) : runV n (mkA b w [] lo la) = (mkA b w [] lo la, []) := by
 cases n <;> rfl
theorem runV_cons (n : Nat) (b : Bridge) (w : List UInt8) (j : Job) (lo la : Int) : runV (n + 1) (mkA b w [j] lo la) = ((runV n (workV (mkA b w [j] lo la) 0 j).1).1, (workV (mkA b w [j] lo la) 0 j).2 ++ (runV n (workV (mkA b w [j] lo la) 0 j).1).2) := rfl
theorem workV_stay {b b' : Bridge} {w : List UInt8} {j j' : Job} {lo la : Int} (h : jobStep w b j = (b', .stay j')) : workV (mkA b w [j] lo la) 0 j = (mkA b' w [j'] lo la, []) := by
 have h' : jobStep (aW (mkA b w [j] lo la)) (aB (mkA b w [j] lo la)) j = (b', .stay j') := h
 unfold workV
 rw [h']; rfl
theorem workV_gone {b b' : Bridge} {w : List UInt8} {j : Job} {d : List Done} {lo la : Int} (h : jobStep w b j = (b', .gone d)) : workV (mkA b w [j] lo la) 0 j = (mkA b' w [] lo la, d) := by
 have h' : jobStep (aW (mkA b w [j] lo la)) (aB (mkA b w [j] lo la)) j = (b', .gone d) := h
 unfold workV
 rw [h']; rfl
/-- A question, once it is read, is answered from its picture. -/
theorem run_ask {b : Bridge} {w : List UInt8} {lo la id : Int} {m : List Int} {q : Pdu} {s : Bridge} {tr : Int} (hk : (q.1 != 163) = true) (hn : q.2.2.2.2.length ≤ 1000) :
 ∀ (n : Nat) (t : Nat), t ≤ q.2.2.2.2.length → q.2.2.2.2.length - t + 2 ≤ n → runV n (mkA b w [mkJ id m 1 q s (t : Int) tr] lo la) = (mkA b w [] lo la, [(id, (replyV s q).2.1)])
 | 0, t, h1, h2 => by omega
 | n + 1, t, h1, h2 => by
  rw [runV_cons]
  by_cases ht : t < q.2.2.2.2.length
  · have hs : jobStep w b (mkJ id m 1 q s (t : Int) tr) = (b, .stay (mkJ id m 1 q s ((t + 1 : Nat) : Int) tr)) := by
     unfold jobStep
     rw [show ((mkJ id m 1 q s (t : Int) tr).2.2.1 == 0) = false from rfl, show ((mkJ id m 1 q s (t : Int) tr).2.2.1 == 2) = false from rfl, cond_false, cond_false]
     have hd : decide (jAt (mkJ id m 1 q s (t : Int) tr) < ((jP (mkJ id m 1 q s (t : Int) tr)).2.2.2.2.length : Int)) = true := decide_eq_true (by show (t : Int) < (q.2.2.2.2.length : Int); omega)
     rw [hd, cond_true]
     have hw : w64 (jAt (mkJ id m 1 q s (t : Int) tr) + 1) = ((t + 1 : Nat) : Int) := w64_nat (by omega)
     rw [hw]; rfl
    rw [workV_stay hs]
    have ih := run_ask (b := b) (w := w) (lo := lo) (la := la) (id := id) (m := m) (s := s) (tr := tr) hk hn n (t + 1) (by omega) (by omega)
    simp only [ih, List.nil_append]
  · have hs : jobStep w b (mkJ id m 1 q s (t : Int) tr) = (b, .stay (mkJ id m 2 q s (t : Int) tr)) := by
     unfold jobStep
     rw [show ((mkJ id m 1 q s (t : Int) tr).2.2.1 == 0) = false from rfl, show ((mkJ id m 1 q s (t : Int) tr).2.2.1 == 2) = false from rfl, cond_false, cond_false]
     have hd : decide (jAt (mkJ id m 1 q s (t : Int) tr) < ((jP (mkJ id m 1 q s (t : Int) tr)).2.2.2.2.length : Int)) = false := decide_eq_false (by show ¬ (t : Int) < (q.2.2.2.2.length : Int); omega)
     rw [hd, cond_false]; rfl
    rw [workV_stay hs]
    cases n with
    | zero => omega
    | succ n =>
     have hs2 : jobStep w b (mkJ id m 2 q s (t : Int) tr) = (b, .gone [(id, (replyV s q).2.1)]) := by
      unfold jobStep
      rw [show ((mkJ id m 2 q s (t : Int) tr).2.2.1 == 0) = false from rfl, show ((mkJ id m 2 q s (t : Int) tr).2.2.1 == 2) = true from rfl, cond_false, cond_true, show ((mkJ id m 2 q s (t : Int) tr).2.2.2.1 != 163) = true from hk, cond_true]
      rfl
     simp only [runV_cons, workV_gone hs2, runV_nil, List.append_nil, List.nil_append]
theorem quietX {b : Bridge} (h : BOk b) (hz : b.2.2.2.2.2.2.2.1 = 0) {q : Pdu} (hq : PLe M q) (hk : (q.1 != 163) = true) (hk2 : (q.1 != 162) = true) :
 ((impl_AgentNew b yard).bind fun t23 =>
  (impl_PutMsg yard q).bind fun t25 =>
  (impl_Arrive t23 t25).bind fun t26 =>
  (impl_WorkAll t26 500).bind fun t29 =>
  (impl_PutMsg yard q).bind fun t33 =>
  cond ((t33.length : Int) == 0)
   ((cond ((t29.2.length : Int) == 0)
    (some (t29.1.2.2.2.2.2.2.2.1 == (w64 (b.2.2.2.2.2.2.2.1 + 1))))
    (some false)).bind fun t47 =>
   some t47)
   ((impl_ReplyOf b q).bind fun t51 =>
   (cond ((t29.2.length : Int) == 1)
    ((at? t29.2 0).bind fun x60 =>
    (laws_samePdu x60.2 t51.2.1).bind fun t64 =>
    some t64)
    (some false)).bind fun t65 =>
   (cond t65
    ((impl_SameBridge (t29.1.1, t29.1.2.1, t29.1.2.2.1, t29.1.2.2.2.1, t29.1.2.2.2.2.1, t29.1.2.2.2.2.2.1, t29.1.2.2.2.2.2.2.1, t29.1.2.2.2.2.2.2.2.1, t29.1.2.2.2.2.2.2.2.2.1, t29.1.2.2.2.2.2.2.2.2.2.1, t29.1.2.2.2.2.2.2.2.2.2.2.1) b).bind fun t70 =>
    some t70)
    (some false)).bind fun t71 =>
   some t71)) = some true := by
 have hM : M = 1048576 := rfl
 have hml := msgB_le yard q
 have hinv := new_inv h (w := yard) (by decide)
 have harr : impl_Arrive (mkA b yard [] 0 0) (msgB yard q) = some (mkA b yard [newJ 1 (msgB yard q)] 0 1) := arriveT hinv (by omega) (by show 0 < 6; omega) (by show (0 : Int) < 1000000; omega)
 have hinv2 : AInv (mkA b yard [newJ 1 (msgB yard q)] 0 1) := arrive_inv hinv (byt_msg yard q) (by omega) (by show 0 < 6; omega) (by show (0 : Int) < 1000000; omega)
 have hall := workAllT hinv2 (n := 500) (by omega)
 have hall : impl_WorkAll (mkA b yard [newJ 1 (msgB yard q)] 0 1) 500 = some (runV 500 (mkA b yard [newJ 1 (msgB yard q)] 0 1)) := hall
 rw [agentNewT h (by decide), Option.bind_some, putMsgT yard hq, Option.bind_some, harr, Option.bind_some, hall, Option.bind_some, Option.bind_some]
 by_cases h0 : msgB yard q = []
 · rw [h0]
   have hs : jobStep yard b (newJ 1 []) = (parseB b, .gone []) := by
    unfold jobStep
    rw [show ((newJ 1 []).2.2.1 == 0) = true from rfl, cond_true, show msgV yard (newJ 1 []).2.1 = ((0, 0, 0, 0, []), 1) from msgV_nil yard]
    rfl
   rw [show runV 500 (mkA b yard [newJ 1 []] 0 1) = (mkA (parseB b) yard [] 0 1, []) by
    rw [runV_cons 499, workV_gone hs]; simp only [runV_nil, List.append_nil]]
   show ((cond (((([] : List Done).length : Nat) : Int) == 0) (some (moreV b.2.2.2.2.2.2.2.1 == (w64 (b.2.2.2.2.2.2.2.1 + 1)))) (some false)).bind fun t47 => some t47) = some true
   rw [hz]; rfl
 · obtain ⟨hv, hpp⟩ := msgV_back h0
   have hx := (pPdu_parts hpp).2.1
   have hs : jobStep yard b (newJ 1 (msgB yard q)) = (b, .stay (mkJ 1 (msgB yard q) 1 q b ((0 : Nat) : Int) 0)) := by
    unfold jobStep
    rw [show ((newJ 1 (msgB yard q)).2.2.1 == 0) = true from rfl, cond_true, show msgV yard (newJ 1 (msgB yard q)).2.1 = (q, 0) from hv]
    have hk2' : (q.1 == 162) = false := by rw [bne] at hk2; simpa using hk2
    show cond ((0 : Int) == 3) _ (cond ((0 : Int) != 0 || (q.1 == 162)) _ _) = _
    rw [hk2']; rfl
   have hrun : runV 500 (mkA b yard [newJ 1 (msgB yard q)] 0 1) = (mkA b yard [] 0 1, [(1, (replyV b q).2.1)]) := by
    rw [runV_cons 499, workV_stay hs, run_ask hk (by omega) 499 0 (by omega) (by omega)]
    rfl
   have hlen : (((msgB yard q).length : Int) == 0) = false := by
    refine beq_eq_false_iff_ne.2 fun e => h0 (List.length_eq_zero_iff.1 (by omega))
   rw [hrun, hlen, cond_false, replyT h.w h.le hq, Option.bind_some]
   obtain ⟨_, d2, _, _, _⟩ := done_kind h hpp hk2
   have hfit := done_fits (b := b) hpp
   have hsp : laws_samePdu (replyV b q).2.1 (replyV b q).2.1 = some true := by
    rw [d2]; exact samePduT (pdu_xs (fitP_ok hfit))
   show ((cond (((([(1, (replyV b q).2.1)] : List Done).length : Nat) : Int) == 1) ((at? [(1, (replyV b q).2.1)] 0).bind fun x60 => (laws_samePdu x60.2 (replyV b q).2.1).bind fun t64 => some t64) (some false)).bind fun t65 => (cond t65 ((impl_SameBridge b b).bind fun t70 => some t70) (some false)).bind fun t71 => some t71) = some true
   have hat : at? [((1 : Int), (replyV b q).2.1)] 0 = some (1, (replyV b q).2.1) := rfl
   simp only [List.length_singleton, hat, Option.bind_some, hsp, sameX h]
   rfl
theorem fnQuiet_pure (code : List Int) : laws_FnQuiet code = some true := by
 unfold laws_FnQuiet laws_big
 by_cases hbig : (code.length : Int) > 1048576
 · simp only [decide_eq_true hbig, Option.bind_some, cond_true]
 simp only [decide_eq_false hbig, Option.bind_some, cond_false]
 obtain ⟨b, p, e, hb, hz, hp⟩ := askedD (code := code) (by omega)
 rw [e, Option.bind_some]
 cases h3 : (p.1 == 163) with
 | true =>
  rw [cond_true]
  exact quietX hb hz.1 (q := (160, p.2.1, p.2.2.1, p.2.2.2.1, p.2.2.2.2)) hp.le rfl rfl
 | false =>
  rw [cond_false]
  have hk2 : (p.1 != 162) = true := by
   rcases hp.k with k | k | k | k <;> rw [k] <;> rfl
  exact quietX hb hz.1 hp.le (by rw [bne, h3]; rfl) hk2
end Go.V.W

