/- The law FnMibs: part of the proof that for every input it returns true. No condition. -/
import Derived.Test.YtloainegonlibaaDrawF
namespace Go.V.W
set_option linter.unusedVariables false
set_option linter.unusedSimpArgs false
/-! ### drawn bridges -/
theorem newB {id n : Nat} (i1 : 1 ≤ id) (i2 : id ≤ 99) (h1 : 1 ≤ n) (h6 : n ≤ 6) : ∃ ps rs qs, spec_BridgeNew (id : Int) (n : Int) = some ((id : Int), [], ps, [], rs, qs, 0, 0, 0, 0, 0) := by
  have hin : pIn (n : Int) 1 6 = true := by unfold pIn; rw [decide_eq_true (by omega), decide_eq_true (by omega)]; rfl
  have hid : pIn (id : Int) 1 99 = true := by unfold pIn; rw [decide_eq_true (by omega), decide_eq_true (by omega)]; rfl
  obtain ⟨d, hd, ps, rfl⟩ := loop_inv (step := fun z : Int × Int × List UInt8 × Int × Int × Int × Int × Int × List Pt × List Fent => spec_BridgeNew_l0 (n : Int) z.1 z.2.1 z.2.2.1 z.2.2.2.1 z.2.2.2.2.1 z.2.2.2.2.2.1 z.2.2.2.2.2.2.1 z.2.2.2.2.2.2.2.1 z.2.2.2.2.2.2.2.2.1 z.2.2.2.2.2.2.2.2.2)
    (fun k z => ∃ ps : List Pt, ps.length = k ∧ z = ((k : Int), (id : Int), [], 0, 0, 0, 0, 0, ps, [])) n (fun d => ∃ ps : List Pt, d = ((id : Int), [], 0, 0, 0, 0, 0, ps, []))
    (fun k z hk ⟨ps, hp, e⟩ => by
      subst e
      left
      refine ⟨(((k + 1 : Nat) : Int), (id : Int), [], 0, 0, 0, 0, 0, ps ++ [(false, 1, false, 0, 0, 0, 0, 0)], []), ?_, ps ++ [(false, 1, false, 0, 0, 0, 0, 0)], by simp; exact hp, rfl⟩
      show spec_BridgeNew_l0 (n : Int) (k : Int) (id : Int) [] 0 0 0 0 0 ps [] = _
      unfold spec_BridgeNew_l0
      rw [dlt (by omega), cond_true, app_small (by show ps.length + 1 ≤ _; omega), Option.bind_some, w64_nat (by omega)])
    (fun z ⟨ps, hp, e⟩ => by
      subst e
      refine ⟨((id : Int), [], 0, 0, 0, 0, 0, ps, []), ?_, ps, rfl⟩
      show spec_BridgeNew_l0 (n : Int) _ (id : Int) [] 0 0 0 0 0 ps [] = _
      unfold spec_BridgeNew_l0
      rw [dnlt (by omega), cond_false]) (x := (0, (id : Int), [], 0, 0, 0, 0, 0, [], [])) ⟨[], rfl, rfl⟩
  unfold spec_BridgeNew
  rw [inS, Option.bind_some, hid, Bool.not_true, cond_false, inS, Option.bind_some, hin, Option.bind_some, Bool.not_true, cond_false, newV h1 h6, Option.bind_some, hd, Option.bind_some]
  exact ⟨_, _, _, rfl⟩
theorem macD {c : L1Cur} (h : CW c) : ∃ c' x, spec_l6Mac c = some (c', x) ∧ CW c' := by
  obtain ⟨c1, x, e, w, _⟩ := intD h (l := [11, 12, 13, 14]) (by decide)
  unfold spec_l6Mac
  rw [e, Option.bind_some]
  exact ⟨_, _, rfl, w⟩
/-- A drawn bridge is right, and small. -/
theorem bridgeD {c : L1Cur} (h : CW c) : ∃ c' b, spec_l11Draw c = some (c', b) ∧ CW c' ∧ BWf b ∧ pBridge b = true := by
  obtain ⟨c1, p, e1, w1, b1⟩ := belowN h (n := 4) (by decide)
  obtain ⟨c2, q, e2, w2, b2⟩ := belowN w1 (n := 5) (by decide)
  have e1' : spec_l1Below c 4 = some (c1, (p : Int)) := e1
  have e2' : spec_l1Below c1 5 = some (c2, (q : Int)) := e2
  have hp : w64 (1 + (p : Int)) = ((p + 1 : Nat) : Int) := by rw [w64_id (by omega) (by omega)]; omega
  have hq : w64 (1 + (q : Int)) = ((q + 1 : Nat) : Int) := by rw [w64_id (by omega) (by omega)]; omega
  obtain ⟨ps, rs, qs, e3⟩ := newB (id := q + 1) (n := p + 1) (by omega) (by omega) (by omega) (by omega)
  obtain ⟨c4, name, e4, w4, b4⟩ := strD w2 (l := [[], [121, 97, 114, 100], [98, 49]]) (by decide)
  obtain ⟨c5, pts, e5, w5, l5, a5⟩ := portsD w4 (n := p + 1) (by omega)
  obtain ⟨c6, v, e6, w6, a6⟩ := drawV w5 (n := p + 1) (by omega) (by omega)
  obtain ⟨c7, m, e7, w7, b7⟩ := belowN w6 (n := 6) (by decide)
  have e7' : spec_l1Below c6 6 = some (c7, (m : Int)) := e7
  have hname : name.length ≤ 10 := by
    have : ∀ x ∈ ([[], [121, 97, 114, 100], [98, 49]] : List (List UInt8)), x.length ≤ 10 := by decide
    exact this name b4
  obtain ⟨d, hd, g1, g2, g3, g4⟩ := loop_inv (step := fun z : Int × List Int × Int × Int × Int × List UInt8 × Int × Int × Int × Int × Int × List Fent => spec_l11Draw_l0 (c1, (p : Int)) z.1 z.2.1 z.2.2.1 z.2.2.2.1 z.2.2.2.2.1 z.2.2.2.2.2.1 z.2.2.2.2.2.2.1 z.2.2.2.2.2.2.2.1 z.2.2.2.2.2.2.2.2.1 z.2.2.2.2.2.2.2.2.2.1 z.2.2.2.2.2.2.2.2.2.2.1 z.2.2.2.2.2.2.2.2.2.2.2)
    (fun k z => z.1 = (m : Int) - (k : Int) ∧ CW (z.2.1, z.2.2.1, z.2.2.2.1) ∧ (z.2.2.2.2.1 = ((q + 1 : Nat) : Int) ∧ z.2.2.2.2.2.1 = name) ∧ (z.2.2.2.2.2.2.1, z.2.2.2.2.2.2.2.1, z.2.2.2.2.2.2.2.2.1, z.2.2.2.2.2.2.2.2.2.1, z.2.2.2.2.2.2.2.2.2.2.1) = ((0 : Int), (0 : Int), (0 : Int), (0 : Int), (0 : Int)) ∧ FB z.2.2.2.2.2.2.2.2.2.2.2) m
    (fun d => CW (d.1, d.2.1, d.2.2.1) ∧ (d.2.2.2.1 = ((q + 1 : Nat) : Int) ∧ d.2.2.2.2.1 = name) ∧ (d.2.2.2.2.2.1, d.2.2.2.2.2.2.1, d.2.2.2.2.2.2.2.1, d.2.2.2.2.2.2.2.2.1, d.2.2.2.2.2.2.2.2.2.1) = ((0 : Int), (0 : Int), (0 : Int), (0 : Int), (0 : Int)) ∧ FB d.2.2.2.2.2.2.2.2.2.2)
    (fun k z hk ⟨a1, a2, a3, a4, a5⟩ => by
      obtain ⟨i, x, y, s, bid, nm, n6, n7, n8, n9, n10, f⟩ := z
      simp only at a1 a2 a3 a4 a5
      left
      show ∃ y', spec_l11Draw_l0 (c1, (p : Int)) i x y s bid nm n6 n7 n8 n9 n10 f = _ ∧ _
      unfold spec_l11Draw_l0
      have hi : decide (i > 0) = true := decide_eq_true (by omega)
      have hw : w64 (i - 1) = (m : Int) - ((k + 1 : Nat) : Int) := by rw [w64_id (by omega) (by omega)]; omega
      obtain ⟨d1, r1, f1, v1, _⟩ := belowD a2 3
      obtain ⟨d2, r2, f2, v2⟩ := macD v1
      obtain ⟨d3, r3, f3, v3, _⟩ := belowD v2 (w64 (1 + (p : Int)))
      obtain ⟨y', f4, g4⟩ := learnF a5 (w64 (1 + r1)) r2 r3
      rw [hi, cond_true, f1, Option.bind_some, f2, Option.bind_some, f3, Option.bind_some, f4, Option.bind_some, hw]
      exact ⟨_, rfl, rfl, v3, a3, a4, g4⟩)
    (fun z ⟨a1, a2, a3, a4, a5⟩ => by
      obtain ⟨i, x, y, s, bid, nm, n6, n7, n8, n9, n10, f⟩ := z
      simp only at a1 a2 a3 a4 a5
      refine ⟨(x, y, s, bid, nm, n6, n7, n8, n9, n10, f), ?_, a2, a3, a4, a5⟩
      show spec_l11Draw_l0 (c1, (p : Int)) i x y s bid nm n6 n7 n8 n9 n10 f = _
      unfold spec_l11Draw_l0
      have hi : decide (i > 0) = false := decide_eq_false (by omega)
      rw [hi, cond_false]) (x := ((m : Int), c7.1, c7.2.1, c7.2.2, ((q + 1 : Nat) : Int), name, 0, 0, 0, 0, 0, [])) ⟨by simp, w7, ⟨rfl, rfl⟩, rfl, ⟨fun x hx => absurd hx List.not_mem_nil, List.Pairwise.nil, by simp⟩⟩
  obtain ⟨dc, dp, ds, did, dn, n6, n7, n8, n9, n10, df⟩ := d
  simp only at g1 g2 g3 g4
  obtain ⟨rfl, rfl⟩ := g2
  simp only [Prod.mk.injEq] at g3
  obtain ⟨rfl, rfl, rfl, rfl, rfl⟩ := g3
  obtain ⟨c8, st, e8, w8⟩ := onceD g1 3
  obtain ⟨z1, z2, z3, z4⟩ := a6.len
  have hin : ∀ n : Nat, n ≤ 1000000 → pIn (n : Int) 0 1000000 = true := fun n hn => by unfold pIn; rw [decide_eq_true (by omega), decide_eq_true (by omega)]; rfl
  have hlast : ∀ (c : L1Cur) (F : List Fent), CW c → FB F → ∃ c' b, ((spec_l1Below c 5).bind fun t59 => (spec_l1Int t59.1 ([0, 1, 5, 1000000] : List Int)).bind fun t63 => some (t63.1, ((((q + 1 : Nat) : Int), dn, pts, F, v.1, v.2, t59.2, 0, 0, 0, t63.2) : Bridge))) = some (c', b) ∧ CW c' ∧ BWf b ∧ pBridge b = true := by
    intro c F hc hF
    obtain ⟨k1, t, f1, u1, b1⟩ := belowN hc (n := 5) (by decide)
    have f1' : spec_l1Below c 5 = some (k1, (t : Int)) := f1
    obtain ⟨k2, x, f2, u2, b2⟩ := intD u1 (l := [0, 1, 5, 1000000]) (by decide)
    have hx : pIn x 0 1000000 = true := by
      have : ∀ x ∈ ([0, 1, 5, 1000000] : List Int), pIn x 0 1000000 = true := by decide
      exact this x b2
    have hFn := hF.n
    rw [f1', Option.bind_some, f2, Option.bind_some]
    refine ⟨_, _, rfl, u2, ⟨by show pts.length < _; omega, by show F.length < _; omega, by show v.1.length < _; omega, by show v.2.length < _; omega, a6.r⟩, ?_⟩
    unfold pBridge pCounts
    show (!((List.range pts.length).any (bPt pts)) && (pIn ((q + 1 : Nat) : Int) 1 99 && (!(decide ((dn.length : Int) > 10)) && (pIn (pts.length : Int) 1 6 && (pFdb F && (pVtab v (pts.length : Int) && (pIn (t : Int) 0 1000000 && (pIn 0 0 1000000 && (pIn 0 0 1000000 && (pIn 0 0 1000000 && pIn x 0 1000000)))))))))) = true
    have q1 : (List.range pts.length).any (bPt pts) = false := by
      apply Bool.eq_false_iff.2
      intro ha
      obtain ⟨k, hk, hx⟩ := List.any_eq_true.1 ha
      have hk := List.mem_range.1 hk
      unfold bPt at hx
      simp only [List.getElem?_eq_getElem hk, a5 _ (List.getElem_mem hk)] at hx
      revert hx; decide
    have q2 : pIn ((q + 1 : Nat) : Int) 1 99 = true := by unfold pIn; rw [decide_eq_true (by omega), decide_eq_true (by omega)]; rfl
    have q3 : decide ((dn.length : Int) > 10) = false := decide_eq_false (by omega)
    have q4 : pIn (pts.length : Int) 1 6 = true := by unfold pIn; rw [decide_eq_true (by omega), decide_eq_true (by omega)]; rfl
    rw [q1, q2, q3, q4, hF.ok, l5, a6.p, hin t (by omega), hx]
    rfl
  have e8' : spec_l1Once (dc, dp, ds) 3 = some (c8, st) := e8
  unfold spec_l11Draw
  rw [e1', Option.bind_some]
  show ∃ c' b, ((spec_l1Below c1 5).bind _) = _ ∧ _
  rw [e2', Option.bind_some]
  show ∃ c' b, ((spec_BridgeNew (w64 (1 + (q : Int))) (w64 (1 + (p : Int)))).bind _) = _ ∧ _
  rw [hp, hq, e3, Option.bind_some, e4, Option.bind_some]
  show ∃ c' b, ((spec_l10Draw c4 ((p + 1 : Nat) : Int)).bind _) = _ ∧ _
  rw [e5, Option.bind_some]
  show ∃ c' b, ((spec_l9Draw c5 ((p + 1 : Nat) : Int)).bind _) = _ ∧ _
  rw [e6, Option.bind_some]
  show ∃ c' b, ((spec_l1Below c6 6).bind _) = _ ∧ _
  rw [e7', Option.bind_some]
  show ∃ c' b, ((loop _ ((m : Int), c7.1, c7.2.1, c7.2.2, ((q + 1 : Nat) : Int), dn, 0, 0, 0, 0, 0, [])).bind _) = _ ∧ _
  rw [hd, Option.bind_some]
  show ∃ c' b, ((spec_l1Once (dc, dp, ds) 3).bind _) = _ ∧ _
  rw [e8', Option.bind_some]
  cases st with
  | false =>
    show ∃ c' b, ((spec_l1Below c8 5).bind _) = _ ∧ _
    exact hlast c8 df w8 g4
  | true =>
    obtain ⟨k1, x1, f1, u1⟩ := macD w8
    obtain ⟨k2, x2, f2, u2, _⟩ := belowD u1 ((p + 1 : Nat) : Int)
    obtain ⟨F, ok, f3, hF⟩ := staticF g4 1 x1 x2
    show ∃ c' b, ((spec_l6Mac c8).bind _) = _ ∧ _
    rw [f1, Option.bind_some]
    show ∃ c' b, ((spec_l1Below k1 ((p + 1 : Nat) : Int)).bind _) = _ ∧ _
    rw [f2, Option.bind_some]
    show ∃ c' b, ((spec_SetStatic df 1 x1 x2).bind _) = _ ∧ _
    rw [f3, Option.bind_some]
    exact hlast k2 F u2 hF
end Go.V.W
