/- The law FnVlans: its functions as plain ones, what they come to, worked out. No condition. -/
import Derived.Test.YtloainegonlibaaVlans
import Derived.Test.YtloainegonlibaaV3
namespace Go.V.W
set_option linter.unusedVariables false
def q_laws_big (code0 : List Int) : Option Bool :=
  let t2 := decide ((code0.length : Int) > 1048576)
  some t2
theorem q_laws_big_le (code0 : List Int) : Le' (q_laws_big code0) (laws_big code0) := by
  unfold q_laws_big laws_big
  repeat' (first | refine Le'.bind ?_ fun _ => ?_ | refine Le'.cond ?_ ?_ | refine Le'.loop fun _ => ?_ | refine Le'.sum (fun _ => ?_) (fun _ => ?_) _ | exact Le'.refl _)
def q_impl_in (n0 : Int) (low1 : Int) (high2 : Int) : Option Bool :=
  (cond (decide (n0 ≥ low1)) (some (decide (n0 ≤ high2))) (some false)).bind fun t14 =>
  some t14
theorem q_impl_in_le (n0 : Int) (low1 : Int) (high2 : Int) : Le' (q_impl_in n0 low1 high2) (impl_in n0 low1 high2) := by
  unfold q_impl_in impl_in
  repeat' (first | refine Le'.bind ?_ fun _ => ?_ | refine Le'.cond ?_ ?_ | refine Le'.loop fun _ => ?_ | refine Le'.sum (fun _ => ?_) (fun _ => ?_) _ | exact Le'.refl _)
def q_impl_allPorts (ports0 : Int) : Option Int :=
  (shl .i64 1 ports0).bind fun t4 =>
  some (w64 (t4 - 1))
theorem q_impl_allPorts_le (ports0 : Int) : Le' (q_impl_allPorts ports0) (impl_allPorts ports0) := by
  unfold q_impl_allPorts impl_allPorts
  repeat' (first | refine Le'.bind ?_ fun _ => ?_ | refine Le'.cond ?_ ?_ | refine Le'.loop fun _ => ?_ | refine Le'.sum (fun _ => ?_) (fun _ => ?_) _ | exact Le'.refl _)
def q_impl_VtabNew_l0 (ports0 : Int) (t16 : Int) (b1 : List Int) : Option ((Int × List Int) ⊕ (List Int)) :=
  cond (decide (t16 < ports0))
    ((app b1 ([1] : List Int)).bind fun zs21 =>
    some (.inl (w64 (t16 + 1), zs21)))
    (some (.inr b1))
theorem q_impl_VtabNew_l0_le (ports0 : Int) (t16 : Int) (b1 : List Int) : Le' (q_impl_VtabNew_l0 ports0 t16 b1) (impl_VtabNew_l0 ports0 t16 b1) := by
  unfold q_impl_VtabNew_l0 impl_VtabNew_l0
  repeat' (first | refine Le'.bind ?_ fun _ => ?_ | refine Le'.cond ?_ ?_ | refine Le'.loop fun _ => ?_ | refine Le'.sum (fun _ => ?_) (fun _ => ?_) _ | exact Le'.refl _)
def q_impl_VtabNew (ports0 : Int) : Option Vtab :=
  (q_impl_in ports0 1 6).bind fun t5 =>
  cond (!t5)
    (some ([], []))
    ((q_impl_allPorts ports0).bind fun t9 =>
    (q_impl_allPorts ports0).bind fun t11 =>
    (qloop (fun z => q_impl_VtabNew_l0 ports0 z.1 z.2) (0, [])).bind fun d =>
    some ([(1, t9, t11)], d))
theorem q_impl_VtabNew_le (ports0 : Int) : Le' (q_impl_VtabNew ports0) (impl_VtabNew ports0) := by
  unfold q_impl_VtabNew impl_VtabNew
  repeat' (first | exact q_impl_in_le _ _ _ | exact q_impl_allPorts_le _ | exact q_impl_VtabNew_l0_le _ _ _ | refine Le'.bind ?_ fun _ => ?_ | refine Le'.cond ?_ ?_ | refine Le'.loop fun _ => ?_ | refine Le'.sum (fun _ => ?_) (fun _ => ?_) _ | exact Le'.refl _)
def q_impl_BridgeNew_l0 (ports1 : Int) (t20 : Int) (b0 : Int) (b1 : List UInt8) (b6 : Int) (b7 : Int) (b8 : Int) (b9 : Int) (b10 : Int) (b2 : List Pt) (b3 : List Fent) : Option ((Int × Int × List UInt8 × Int × Int × Int × Int × Int × List Pt × List Fent) ⊕ (Int × List UInt8 × Int × Int × Int × Int × Int × List Pt × List Fent)) :=
  cond (decide (t20 < ports1))
    ((app b2 [(false, 1, false, 0, 0, 0, 0, 0)]).bind fun zs26 =>
    some (.inl (w64 (t20 + 1), b0, b1, b6, b7, b8, b9, b10, zs26, b3)))
    (some (.inr (b0, b1, b6, b7, b8, b9, b10, b2, b3)))
theorem q_impl_BridgeNew_l0_le (ports1 : Int) (t20 : Int) (b0 : Int) (b1 : List UInt8) (b6 : Int) (b7 : Int) (b8 : Int) (b9 : Int) (b10 : Int) (b2 : List Pt) (b3 : List Fent) : Le' (q_impl_BridgeNew_l0 ports1 t20 b0 b1 b6 b7 b8 b9 b10 b2 b3) (impl_BridgeNew_l0 ports1 t20 b0 b1 b6 b7 b8 b9 b10 b2 b3) := by
  unfold q_impl_BridgeNew_l0 impl_BridgeNew_l0
  repeat' (first | refine Le'.bind ?_ fun _ => ?_ | refine Le'.cond ?_ ?_ | refine Le'.loop fun _ => ?_ | refine Le'.sum (fun _ => ?_) (fun _ => ?_) _ | exact Le'.refl _)
def q_impl_BridgeNew (id0 : Int) (ports1 : Int) : Option Bridge :=
  (q_impl_in id0 1 99).bind fun t7 =>
  (cond (!t7)
    (some true)
    ((q_impl_in ports1 1 6).bind fun t11 =>
    some (!t11))).bind fun t13 =>
  cond t13
    (some (0, [], [], [], [], [], 0, 0, 0, 0, 0))
    ((q_impl_VtabNew ports1).bind fun t17 =>
    (qloop (fun z => q_impl_BridgeNew_l0 ports1 z.1 z.2.1 z.2.2.1 z.2.2.2.1 z.2.2.2.2.1 z.2.2.2.2.2.1 z.2.2.2.2.2.2.1 z.2.2.2.2.2.2.2.1 z.2.2.2.2.2.2.2.2.1 z.2.2.2.2.2.2.2.2.2) (0, id0, [], 0, 0, 0, 0, 0, [], [])).bind fun d =>
    some (d.1, d.2.1, d.2.2.2.2.2.2.2.1, d.2.2.2.2.2.2.2.2, t17.1, t17.2, d.2.2.1, d.2.2.2.1, d.2.2.2.2.1, d.2.2.2.2.2.1, d.2.2.2.2.2.2.1))
theorem q_impl_BridgeNew_le (id0 : Int) (ports1 : Int) : Le' (q_impl_BridgeNew id0 ports1) (impl_BridgeNew id0 ports1) := by
  unfold q_impl_BridgeNew impl_BridgeNew
  repeat' (first | exact q_impl_in_le _ _ _ | exact q_impl_VtabNew_le _ | exact q_impl_BridgeNew_l0_le _ _ _ _ _ _ _ _ _ _ _ | refine Le'.bind ?_ fun _ => ?_ | refine Le'.cond ?_ ?_ | refine Le'.loop fun _ => ?_ | refine Le'.sum (fun _ => ?_) (fun _ => ?_) _ | exact Le'.refl _)
def q_impl_copyFdb (l0 : List Fent) : Option (List Fent) :=
  (app [] l0).bind fun zs4 =>
  some zs4
theorem q_impl_copyFdb_le (l0 : List Fent) : Le' (q_impl_copyFdb l0) (impl_copyFdb l0) := by
  unfold q_impl_copyFdb impl_copyFdb
  repeat' (first | refine Le'.bind ?_ fun _ => ?_ | refine Le'.cond ?_ ?_ | refine Le'.loop fun _ => ?_ | refine Le'.sum (fun _ => ?_) (fun _ => ?_) _ | exact Le'.refl _)
def q_impl_copyInts (l0 : List Int) : Option (List Int) :=
  (app [] l0).bind fun zs4 =>
  some zs4
theorem q_impl_copyInts_le (l0 : List Int) : Le' (q_impl_copyInts l0) (impl_copyInts l0) := by
  unfold q_impl_copyInts impl_copyInts
  repeat' (first | refine Le'.bind ?_ fun _ => ?_ | refine Le'.cond ?_ ?_ | refine Le'.loop fun _ => ?_ | refine Le'.sum (fun _ => ?_) (fun _ => ?_) _ | exact Le'.refl _)
def q_impl_copyVtab (v0 : Vtab) : Option Vtab :=
  (app [] v0.1).bind fun zs5 =>
  (q_impl_copyInts v0.2).bind fun t8 =>
  some (zs5, t8)
theorem q_impl_copyVtab_le (v0 : Vtab) : Le' (q_impl_copyVtab v0) (impl_copyVtab v0) := by
  unfold q_impl_copyVtab impl_copyVtab
  repeat' (first | exact q_impl_copyInts_le _ | refine Le'.bind ?_ fun _ => ?_ | refine Le'.cond ?_ ?_ | refine Le'.loop fun _ => ?_ | refine Le'.sum (fun _ => ?_) (fun _ => ?_) _ | exact Le'.refl _)
def q_impl_copyBridge (b0 : Bridge) : Option Bridge :=
  (app [] b0.2.2.1).bind fun zs5 =>
  (q_impl_copyFdb b0.2.2.2.1).bind fun t9 =>
  (q_impl_copyVtab (b0.2.2.2.2.1, b0.2.2.2.2.2.1)).bind fun t12 =>
  some (b0.1, b0.2.1, zs5, t9, t12.1, t12.2, b0.2.2.2.2.2.2.1, b0.2.2.2.2.2.2.2.1, b0.2.2.2.2.2.2.2.2.1, b0.2.2.2.2.2.2.2.2.2.1, b0.2.2.2.2.2.2.2.2.2.2)
theorem q_impl_copyBridge_le (b0 : Bridge) : Le' (q_impl_copyBridge b0) (impl_copyBridge b0) := by
  unfold q_impl_copyBridge impl_copyBridge
  repeat' (first | exact q_impl_copyFdb_le _ | exact q_impl_copyVtab_le _ | refine Le'.bind ?_ fun _ => ?_ | refine Le'.cond ?_ ?_ | refine Le'.loop fun _ => ?_ | refine Le'.sum (fun _ => ?_) (fun _ => ?_) _ | exact Le'.refl _)
def q_impl_RowAt_l0 (v0 : Vtab) (id1 : Int) (t10 : Int) : Option (Int ⊕ (Unit ⊕ Int)) :=
  cond (decide (t10 < (v0.1.length : Int)))
    ((at? v0.1 t10).bind fun x13 =>
    cond (x13.1 == id1) (some (.inr (.inr t10))) (some (.inl (w64 (t10 + 1)))))
    (some (.inr (.inl ())))
theorem q_impl_RowAt_l0_le (v0 : Vtab) (id1 : Int) (t10 : Int) : Le' (q_impl_RowAt_l0 v0 id1 t10) (impl_RowAt_l0 v0 id1 t10) := by
  unfold q_impl_RowAt_l0 impl_RowAt_l0
  repeat' (first | refine Le'.bind ?_ fun _ => ?_ | refine Le'.cond ?_ ?_ | refine Le'.loop fun _ => ?_ | refine Le'.sum (fun _ => ?_) (fun _ => ?_) _ | exact Le'.refl _)
def q_impl_RowAt (v0 : Vtab) (id1 : Int) : Option Int :=
  (qloop (fun z => q_impl_RowAt_l0 v0 id1 z) 0).bind (Sum.elim (fun d =>
    some (-1)) (fun r => some r))
theorem q_impl_RowAt_le (v0 : Vtab) (id1 : Int) : Le' (q_impl_RowAt v0 id1) (impl_RowAt v0 id1) := by
  unfold q_impl_RowAt impl_RowAt
  repeat' (first | exact q_impl_RowAt_l0_le _ _ _ | refine Le'.bind ?_ fun _ => ?_ | refine Le'.cond ?_ ?_ | refine Le'.loop fun _ => ?_ | refine Le'.sum (fun _ => ?_) (fun _ => ?_) _ | exact Le'.refl _)
def q_impl_VtabOk_l0 (p0 : Vtab) (i1 : Int) (t28 : Int) : Option (Int ⊕ (Unit ⊕ Bool)) :=
  cond (decide (t28 < (p0.1.length : Int)))
    ((at? p0.1 t28).bind fun x31 =>
    (q_impl_in x31.1 1 99).bind fun t35 =>
    (cond (!t35)
      (some true)
      ((cond (decide (t28 > 0))
        ((at? p0.1 (w64 (t28 - 1))).bind fun x45 =>
        some (decide (x45.1 ≥ x31.1)))
        (some false)).bind fun t51 =>
      some t51)).bind fun t52 =>
    (cond t52
      (some true)
      ((q_impl_allPorts i1).bind fun t57 =>
      (q_impl_in x31.2.1 0 t57).bind fun t58 =>
      some (!t58))).bind fun t60 =>
    (cond t60 (some true) (some ((bclr .i64 x31.2.2 x31.2.1) != 0))).bind fun t68 =>
    cond t68 (some (.inr (.inr false))) (some (.inl (w64 (t28 + 1)))))
    (some (.inr (.inl ())))
theorem q_impl_VtabOk_l0_le (p0 : Vtab) (i1 : Int) (t28 : Int) : Le' (q_impl_VtabOk_l0 p0 i1 t28) (impl_VtabOk_l0 p0 i1 t28) := by
  unfold q_impl_VtabOk_l0 impl_VtabOk_l0
  repeat' (first | exact q_impl_in_le _ _ _ | exact q_impl_allPorts_le _ | refine Le'.bind ?_ fun _ => ?_ | refine Le'.cond ?_ ?_ | refine Le'.loop fun _ => ?_ | refine Le'.sum (fun _ => ?_) (fun _ => ?_) _ | exact Le'.refl _)
def q_impl_VtabOk_l2 (p0 : Vtab) (t73 : Int) : Option (Int ⊕ (Unit ⊕ Bool)) :=
  cond (decide (t73 < (p0.2.length : Int)))
    ((at? p0.2 t73).bind fun x75 =>
    (q_impl_RowAt p0 x75).bind fun t79 =>
    cond (decide (t79 < 0)) (some (.inr (.inr false))) (some (.inl (w64 (t73 + 1)))))
    (some (.inr (.inl ())))
theorem q_impl_VtabOk_l2_le (p0 : Vtab) (t73 : Int) : Le' (q_impl_VtabOk_l2 p0 t73) (impl_VtabOk_l2 p0 t73) := by
  unfold q_impl_VtabOk_l2 impl_VtabOk_l2
  repeat' (first | exact q_impl_RowAt_le _ _ | refine Le'.bind ?_ fun _ => ?_ | refine Le'.cond ?_ ?_ | refine Le'.loop fun _ => ?_ | refine Le'.sum (fun _ => ?_) (fun _ => ?_) _ | exact Le'.refl _)
def q_impl_VtabOk (p0 : Vtab) (i1 : Int) : Option Bool :=
  (q_impl_in i1 1 6).bind fun t10 =>
  (cond (!t10) (some true) (some ((p0.2.length : Int) != i1))).bind fun t18 =>
  (cond t18 (some true) (some (decide ((p0.1.length : Int) > 6)))).bind fun t24 =>
  cond t24
    (some false)
    ((qloop (fun z => q_impl_VtabOk_l0 p0 i1 z) 0).bind (Sum.elim (fun d =>
      (qloop (fun z => q_impl_VtabOk_l2 p0 z) 0).bind (Sum.elim (fun d_1 =>
        some true) (fun r => some r))) (fun r_1 => some r_1)))
theorem q_impl_VtabOk_le (p0 : Vtab) (i1 : Int) : Le' (q_impl_VtabOk p0 i1) (impl_VtabOk p0 i1) := by
  unfold q_impl_VtabOk impl_VtabOk
  repeat' (first | exact q_impl_in_le _ _ _ | exact q_impl_VtabOk_l0_le _ _ _ | exact q_impl_VtabOk_l2_le _ _ | refine Le'.bind ?_ fun _ => ?_ | refine Le'.cond ?_ ?_ | refine Le'.loop fun _ => ?_ | refine Le'.sum (fun _ => ?_) (fun _ => ?_) _ | exact Le'.refl _)
def q_impl_VecOk (v0 : Vec) : Option Bool :=
  (q_impl_in v0.1 1 99).bind fun t5 =>
  (cond t5
    ((q_impl_in v0.2.1 0 100000).bind fun t9 =>
    some t9)
    (some false)).bind fun t10 =>
  (cond t10
    ((q_impl_in v0.2.2.1 0 10).bind fun t14 =>
    some t14)
    (some false)).bind fun t15 =>
  (cond t15
    ((q_impl_in v0.2.2.2.1 1 99).bind fun t19 =>
    some t19)
    (some false)).bind fun t20 =>
  (cond t20
    ((q_impl_in v0.2.2.2.2 0 7).bind fun t24 =>
    some t24)
    (some false)).bind fun t25 =>
  some t25
theorem q_impl_VecOk_le (v0 : Vec) : Le' (q_impl_VecOk v0) (impl_VecOk v0) := by
  unfold q_impl_VecOk impl_VecOk
  repeat' (first | exact q_impl_in_le _ _ _ | refine Le'.bind ?_ fun _ => ?_ | refine Le'.cond ?_ ?_ | refine Le'.loop fun _ => ?_ | refine Le'.sum (fun _ => ?_) (fun _ => ?_) _ | exact Le'.refl _)
def q_impl_PtOk (p0 : Pt) : Option Bool :=
  (q_impl_in p0.2.1 1 1000).bind fun t5 =>
  (cond (!t5)
    (some true)
    ((cond p0.2.2.1 (some (!p0.1)) (some false)).bind fun t14 =>
    some t14)).bind fun t15 =>
  cond t15
    (some false)
    (cond p0.2.2.1
      ((q_impl_VecOk p0.2.2.2).bind fun t20 =>
      some t20)
      (let t2 := p0.2.2.2.1 == 0 && (p0.2.2.2.2.1 == 0 && (p0.2.2.2.2.2.1 == 0 && (p0.2.2.2.2.2.2.1 == 0 && (p0.2.2.2.2.2.2.2 == 0))))
      some t2))
theorem q_impl_PtOk_le (p0 : Pt) : Le' (q_impl_PtOk p0) (impl_PtOk p0) := by
  unfold q_impl_PtOk impl_PtOk
  repeat' (first | exact q_impl_in_le _ _ _ | exact q_impl_VecOk_le _ | refine Le'.bind ?_ fun _ => ?_ | refine Le'.cond ?_ ?_ | refine Le'.loop fun _ => ?_ | refine Le'.sum (fun _ => ?_) (fun _ => ?_) _ | exact Le'.refl _)
def q_impl_fentOk (e0 : Fent) : Option Bool :=
  (q_impl_in e0.1 1 99).bind fun t5 =>
  (cond t5
    ((q_impl_in e0.2.1 1 9999).bind fun t9 =>
    some t9)
    (some false)).bind fun t10 =>
  (cond t10
    ((q_impl_in e0.2.2.1 0 7).bind fun t14 =>
    some t14)
    (some false)).bind fun t15 =>
  (cond t15
    ((q_impl_in e0.2.2.2.1 0 4).bind fun t19 =>
    some t19)
    (some false)).bind fun t20 =>
  (cond t20
    ((cond (!e0.2.2.2.2) (some true) (some (e0.2.2.2.1 == 0))).bind fun t29 =>
    some t29)
    (some false)).bind fun t30 =>
  some t30
theorem q_impl_fentOk_le (e0 : Fent) : Le' (q_impl_fentOk e0) (impl_fentOk e0) := by
  unfold q_impl_fentOk impl_fentOk
  repeat' (first | exact q_impl_in_le _ _ _ | refine Le'.bind ?_ fun _ => ?_ | refine Le'.cond ?_ ?_ | refine Le'.loop fun _ => ?_ | refine Le'.sum (fun _ => ?_) (fun _ => ?_) _ | exact Le'.refl _)
def q_impl_behind (e0 : Fent) (tag1 : Int) (mac2 : Int) : Option Bool :=
  (cond (decide (e0.1 > tag1))
    (some true)
    ((cond (e0.1 == tag1) (some (decide (e0.2.1 > mac2))) (some false)).bind fun t21 =>
    some t21)).bind fun t22 =>
  some t22
theorem q_impl_behind_le (e0 : Fent) (tag1 : Int) (mac2 : Int) : Le' (q_impl_behind e0 tag1 mac2) (impl_behind e0 tag1 mac2) := by
  unfold q_impl_behind impl_behind
  repeat' (first | refine Le'.bind ?_ fun _ => ?_ | refine Le'.cond ?_ ?_ | refine Le'.loop fun _ => ?_ | refine Le'.sum (fun _ => ?_) (fun _ => ?_) _ | exact Le'.refl _)
def q_impl_FdbOk_l0 (l0 : List Fent) (t7 : Int) : Option (Int ⊕ (Unit ⊕ Bool)) :=
  cond (decide (t7 < (l0.length : Int)))
    ((at? l0 t7).bind fun x10 =>
    (q_impl_fentOk x10).bind fun t13 =>
    (cond (!t13)
      (some true)
      ((cond (decide (t7 > 0))
        ((at? l0 (w64 (t7 - 1))).bind fun x23 =>
        (at? l0 (w64 (t7 - 1))).bind fun x29 =>
        (q_impl_behind x10 x23.1 x29.2.1).bind fun t32 =>
        some (!t32))
        (some false)).bind fun t34 =>
      some t34)).bind fun t35 =>
    cond t35 (some (.inr (.inr false))) (some (.inl (w64 (t7 + 1)))))
    (some (.inr (.inl ())))
theorem q_impl_FdbOk_l0_le (l0 : List Fent) (t7 : Int) : Le' (q_impl_FdbOk_l0 l0 t7) (impl_FdbOk_l0 l0 t7) := by
  unfold q_impl_FdbOk_l0 impl_FdbOk_l0
  repeat' (first | exact q_impl_fentOk_le _ | exact q_impl_behind_le _ _ _ | refine Le'.bind ?_ fun _ => ?_ | refine Le'.cond ?_ ?_ | refine Le'.loop fun _ => ?_ | refine Le'.sum (fun _ => ?_) (fun _ => ?_) _ | exact Le'.refl _)
def q_impl_FdbOk (l0 : List Fent) : Option Bool :=
  (qloop (fun z => q_impl_FdbOk_l0 l0 z) 0).bind (Sum.elim (fun d =>
    let t2 := decide ((l0.length : Int) ≤ 12)
    some t2) (fun r => some r))
theorem q_impl_FdbOk_le (l0 : List Fent) : Le' (q_impl_FdbOk l0) (impl_FdbOk l0) := by
  unfold q_impl_FdbOk impl_FdbOk
  repeat' (first | exact q_impl_FdbOk_l0_le _ _ | refine Le'.bind ?_ fun _ => ?_ | refine Le'.cond ?_ ?_ | refine Le'.loop fun _ => ?_ | refine Le'.sum (fun _ => ?_) (fun _ => ?_) _ | exact Le'.refl _)
def q_impl_isCount (n0 : Int) : Option Bool :=
  (q_impl_in n0 0 1000000).bind fun t4 =>
  some t4
theorem q_impl_isCount_le (n0 : Int) : Le' (q_impl_isCount n0) (impl_isCount n0) := by
  unfold q_impl_isCount impl_isCount
  repeat' (first | exact q_impl_in_le _ _ _ | refine Le'.bind ?_ fun _ => ?_ | refine Le'.cond ?_ ?_ | refine Le'.loop fun _ => ?_ | refine Le'.sum (fun _ => ?_) (fun _ => ?_) _ | exact Le'.refl _)
def q_impl_BridgeOk_l0 (p0 : Bridge) (t8 : Int) : Option (Int ⊕ (Unit ⊕ Bool)) :=
  cond (decide (t8 < (p0.2.2.1.length : Int)))
    ((at? p0.2.2.1 t8).bind fun x10 =>
    (q_impl_PtOk x10).bind fun t13 =>
    cond (!t13) (some (.inr (.inr false))) (some (.inl (w64 (t8 + 1)))))
    (some (.inr (.inl ())))
theorem q_impl_BridgeOk_l0_le (p0 : Bridge) (t8 : Int) : Le' (q_impl_BridgeOk_l0 p0 t8) (impl_BridgeOk_l0 p0 t8) := by
  unfold q_impl_BridgeOk_l0 impl_BridgeOk_l0
  repeat' (first | exact q_impl_PtOk_le _ | refine Le'.bind ?_ fun _ => ?_ | refine Le'.cond ?_ ?_ | refine Le'.loop fun _ => ?_ | refine Le'.sum (fun _ => ?_) (fun _ => ?_) _ | exact Le'.refl _)
def q_impl_BridgeOk (p0 : Bridge) : Option Bool :=
  (qloop (fun z => q_impl_BridgeOk_l0 p0 z) 0).bind (Sum.elim (fun d =>
    (q_impl_in p0.1 1 99).bind fun t18 =>
    (cond (!t18) (some true) (some (decide ((p0.2.1.length : Int) > 10)))).bind fun t25 =>
    (cond t25
      (some true)
      ((q_impl_in (p0.2.2.1.length : Int) 1 6).bind fun t30 =>
      some (!t30))).bind fun t32 =>
    (cond t32
      (some true)
      ((q_impl_FdbOk p0.2.2.2.1).bind fun t36 =>
      some (!t36))).bind fun t38 =>
    (cond t38
      (some true)
      ((q_impl_VtabOk (p0.2.2.2.2.1, p0.2.2.2.2.2.1) (p0.2.2.1.length : Int)).bind fun t45 =>
      some (!t45))).bind fun t47 =>
    cond t47
      (some false)
      ((q_impl_isCount p0.2.2.2.2.2.2.1).bind fun t50 =>
      (cond t50
        ((q_impl_isCount p0.2.2.2.2.2.2.2.1).bind fun t54 =>
        some t54)
        (some false)).bind fun t55 =>
      (cond t55
        ((q_impl_isCount p0.2.2.2.2.2.2.2.2.1).bind fun t59 =>
        some t59)
        (some false)).bind fun t60 =>
      (cond t60
        ((q_impl_isCount p0.2.2.2.2.2.2.2.2.2.1).bind fun t64 =>
        some t64)
        (some false)).bind fun t65 =>
      (cond t65
        ((q_impl_isCount p0.2.2.2.2.2.2.2.2.2.2).bind fun t69 =>
        some t69)
        (some false)).bind fun t70 =>
      some t70)) (fun r => some r))
theorem q_impl_BridgeOk_le (p0 : Bridge) : Le' (q_impl_BridgeOk p0) (impl_BridgeOk p0) := by
  unfold q_impl_BridgeOk impl_BridgeOk
  repeat' (first | exact q_impl_BridgeOk_l0_le _ _ | exact q_impl_in_le _ _ _ | exact q_impl_FdbOk_le _ | exact q_impl_VtabOk_le _ _ | exact q_impl_isCount_le _ | refine Le'.bind ?_ fun _ => ?_ | refine Le'.cond ?_ ?_ | refine Le'.loop fun _ => ?_ | refine Le'.sum (fun _ => ?_) (fun _ => ?_) _ | exact Le'.refl _)
def q_impl_isPort (b0 : Bridge) (port1 : Int) : Option Bool :=
  (q_impl_BridgeOk b0).bind fun t6 =>
  (cond t6
    ((q_impl_in port1 0 (w64 ((b0.2.2.1.length : Int) - 1))).bind fun t13 =>
    some t13)
    (some false)).bind fun t14 =>
  some t14
theorem q_impl_isPort_le (b0 : Bridge) (port1 : Int) : Le' (q_impl_isPort b0 port1) (impl_isPort b0 port1) := by
  unfold q_impl_isPort impl_isPort
  repeat' (first | exact q_impl_BridgeOk_le _ | exact q_impl_in_le _ _ _ | refine Le'.bind ?_ fun _ => ?_ | refine Le'.cond ?_ ?_ | refine Le'.loop fun _ => ?_ | refine Le'.sum (fun _ => ?_) (fun _ => ?_) _ | exact Le'.refl _)
def q_impl_LessVec (a0 : Vec) (b1 : Vec) : Option Bool :=
  cond (a0.1 != b1.1)
    (some (decide (a0.1 < b1.1)))
    (cond (a0.2.1 != b1.2.1)
      (some (decide (a0.2.1 < b1.2.1)))
      (cond (a0.2.2.2.1 != b1.2.2.2.1)
        (let t4 := decide (a0.2.2.2.1 < b1.2.2.2.1)
        some t4)
        (let t4_1 := decide (a0.2.2.2.2 < b1.2.2.2.2)
        some t4_1)))
theorem q_impl_LessVec_le (a0 : Vec) (b1 : Vec) : Le' (q_impl_LessVec a0 b1) (impl_LessVec a0 b1) := by
  unfold q_impl_LessVec impl_LessVec
  repeat' (first | refine Le'.bind ?_ fun _ => ?_ | refine Le'.cond ?_ ?_ | refine Le'.loop fun _ => ?_ | refine Le'.sum (fun _ => ?_) (fun _ => ?_) _ | exact Le'.refl _)
def q_impl_StepVec (v0 : Vec) (cost1 : Int) : Option (Vec × Bool) :=
  (q_impl_VecOk v0).bind fun t8 =>
  (cond (!t8)
    (some true)
    ((q_impl_in cost1 1 1000).bind fun t12 =>
    some (!t12))).bind fun t14 =>
  cond t14
    (some (v0, false))
    ((q_impl_VecOk (v0.1, w64 (v0.2.1 + cost1), w64 (v0.2.2.1 + 1), v0.2.2.2.1, v0.2.2.2.2)).bind fun t27 =>
    cond (!t27)
      (some (v0, false))
      (some ((v0.1, w64 (v0.2.1 + cost1), w64 (v0.2.2.1 + 1), v0.2.2.2.1, v0.2.2.2.2), true)))
theorem q_impl_StepVec_le (v0 : Vec) (cost1 : Int) : Le' (q_impl_StepVec v0 cost1) (impl_StepVec v0 cost1) := by
  unfold q_impl_StepVec impl_StepVec
  repeat' (first | exact q_impl_VecOk_le _ | exact q_impl_in_le _ _ _ | refine Le'.bind ?_ fun _ => ?_ | refine Le'.cond ?_ ?_ | refine Le'.loop fun _ => ?_ | refine Le'.sum (fun _ => ?_) (fun _ => ?_) _ | exact Le'.refl _)
def q_impl_BestVec_l0 (p0 : Int) (i1 : List Pt) (t7 : Int) (t18 : Int) (b0 : Int) (b1 : Int) (b2 : Int) (b3 : Int) (b4 : Int) (b0_1 : Int) (b1_1 : Int) (b2_1 : Int) (b3_1 : Int) (b4_1 : Int) : Option ((Int × Int × Int × Int × Int × Int × Int × Int × Int × Int × Int × Int) ⊕ (Int × Int × Int × Int × Int × Int × Int × Int × Int × Int × Int)) :=
  cond (decide (t18 < (i1.length : Int)))
    ((at? i1 t18).bind fun x21 =>
    (cond (!x21.1) (some true) (some (!x21.2.2.1))).bind fun t30 =>
    cond t30
      (some (.inl (t7, w64 (t18 + 1), b0, b1, b2, b3, b4, b0_1, b1_1, b2_1, b3_1, b4_1)))
      ((q_impl_StepVec x21.2.2.2 x21.2.1).bind fun t36 =>
      (cond t36.2 (some (decide (t36.1.1 < p0))) (some false)).bind fun t45 =>
      (cond t45
        ((cond (decide (t7 < 0))
          (some true)
          ((q_impl_LessVec t36.1 (b0_1, b1_1, b2_1, b3_1, b4_1)).bind fun t52 =>
          some t52)).bind fun t53 =>
        some t53)
        (some false)).bind fun t54 =>
      cond t54
        (some (.inl (t18, w64 (t18 + 1), t36.1.1, t36.1.2.1, t36.1.2.2.1, p0, 0, t36.1.1, t36.1.2.1, t36.1.2.2.1, t36.1.2.2.2.1, t36.1.2.2.2.2)))
        (some (.inl (t7, w64 (t18 + 1), b0, b1, b2, b3, b4, b0_1, b1_1, b2_1, b3_1, b4_1)))))
    (some (.inr (t7, b0, b1, b2, b3, b4, b0_1, b1_1, b2_1, b3_1, b4_1)))
theorem q_impl_BestVec_l0_le (p0 : Int) (i1 : List Pt) (t7 : Int) (t18 : Int) (b0 : Int) (b1 : Int) (b2 : Int) (b3 : Int) (b4 : Int) (b0_1 : Int) (b1_1 : Int) (b2_1 : Int) (b3_1 : Int) (b4_1 : Int) : Le' (q_impl_BestVec_l0 p0 i1 t7 t18 b0 b1 b2 b3 b4 b0_1 b1_1 b2_1 b3_1 b4_1) (impl_BestVec_l0 p0 i1 t7 t18 b0 b1 b2 b3 b4 b0_1 b1_1 b2_1 b3_1 b4_1) := by
  unfold q_impl_BestVec_l0 impl_BestVec_l0
  repeat' (first | exact q_impl_StepVec_le _ _ | exact q_impl_LessVec_le _ _ | refine Le'.bind ?_ fun _ => ?_ | refine Le'.cond ?_ ?_ | refine Le'.loop fun _ => ?_ | refine Le'.sum (fun _ => ?_) (fun _ => ?_) _ | exact Le'.refl _)
def q_impl_BestVec (p0 : Int) (i1 : List Pt) : Option (Vec × Int) :=
  (qloop (fun z => q_impl_BestVec_l0 p0 i1 z.1 z.2.1 z.2.2.1 z.2.2.2.1 z.2.2.2.2.1 z.2.2.2.2.2.1 z.2.2.2.2.2.2.1 z.2.2.2.2.2.2.2.1 z.2.2.2.2.2.2.2.2.1 z.2.2.2.2.2.2.2.2.2.1 z.2.2.2.2.2.2.2.2.2.2.1 z.2.2.2.2.2.2.2.2.2.2.2) ((-1), 0, p0, 0, 0, p0, 0, 0, 0, 0, 0, 0)).bind fun d =>
  some ((d.2.1, d.2.2.1, d.2.2.2.1, d.2.2.2.2.1, d.2.2.2.2.2.1), d.1)
theorem q_impl_BestVec_le (p0 : Int) (i1 : List Pt) : Le' (q_impl_BestVec p0 i1) (impl_BestVec p0 i1) := by
  unfold q_impl_BestVec impl_BestVec
  repeat' (first | exact q_impl_BestVec_l0_le _ _ _ _ _ _ _ _ _ _ _ _ _ _ | refine Le'.bind ?_ fun _ => ?_ | refine Le'.cond ?_ ?_ | refine Le'.loop fun _ => ?_ | refine Le'.sum (fun _ => ?_) (fun _ => ?_) _ | exact Le'.refl _)
def q_impl_SayVec (id0 : Int) (l1 : List Pt) (port2 : Int) : Option Vec :=
  (q_impl_BestVec id0 l1).bind fun t12 =>
  some (t12.1.1, t12.1.2.1, t12.1.2.2.1, t12.1.2.2.2.1, port2)
theorem q_impl_SayVec_le (id0 : Int) (l1 : List Pt) (port2 : Int) : Le' (q_impl_SayVec id0 l1 port2) (impl_SayVec id0 l1 port2) := by
  unfold q_impl_SayVec impl_SayVec
  repeat' (first | exact q_impl_BestVec_le _ _ | refine Le'.bind ?_ fun _ => ?_ | refine Le'.cond ?_ ?_ | refine Le'.loop fun _ => ?_ | refine Le'.sum (fun _ => ?_) (fun _ => ?_) _ | exact Le'.refl _)
def q_impl_RoleOf (id0 : Int) (l1 : List Pt) (port2 : Int) : Option Int :=
  (q_impl_in port2 0 (w64 ((l1.length : Int) - 1))).bind fun t13 =>
  (cond (!t13)
    (some true)
    ((at? l1 port2).bind fun x18 =>
    some (!x18.1))).bind fun t22 =>
  cond t22
    (some 4)
    ((q_impl_BestVec id0 l1).bind fun t26 =>
    cond (t26.2 == port2)
      (some 1)
      ((at? l1 port2).bind fun x36 =>
      (cond (!x36.2.2.1)
        (some true)
        ((q_impl_SayVec id0 l1 port2).bind fun t44 =>
        (at? l1 port2).bind fun x47 =>
        (q_impl_LessVec t44 x47.2.2.2).bind fun t50 =>
        some t50)).bind fun t51 =>
      cond t51 (some 2) (some 3)))
theorem q_impl_RoleOf_le (id0 : Int) (l1 : List Pt) (port2 : Int) : Le' (q_impl_RoleOf id0 l1 port2) (impl_RoleOf id0 l1 port2) := by
  unfold q_impl_RoleOf impl_RoleOf
  repeat' (first | exact q_impl_in_le _ _ _ | exact q_impl_BestVec_le _ _ | exact q_impl_SayVec_le _ _ _ | exact q_impl_LessVec_le _ _ | refine Le'.bind ?_ fun _ => ?_ | refine Le'.cond ?_ ?_ | refine Le'.loop fun _ => ?_ | refine Le'.sum (fun _ => ?_) (fun _ => ?_) _ | exact Le'.refl _)
def q_impl_Sends_l0 (id0 : Int) (l1 : List Pt) (bits5 : Int) (port6 : Int) : Option ((Int × Int) ⊕ Int) :=
  (cond (decide (port6 < (l1.length : Int))) (some (decide (port6 < 6))) (some false)).bind fun t15 =>
  cond t15
    ((q_impl_RoleOf id0 l1 port6).bind fun t21 =>
    (cond (t21 == 1) (some true) (some (t21 == 2))).bind fun t27 =>
    cond t27
      ((shl .i64 1 port6).bind fun t30 =>
      some (.inl (bor .i64 bits5 t30, w64 (port6 + 1))))
      (some (.inl (bits5, w64 (port6 + 1)))))
    (some (.inr bits5))
theorem q_impl_Sends_l0_le (id0 : Int) (l1 : List Pt) (bits5 : Int) (port6 : Int) : Le' (q_impl_Sends_l0 id0 l1 bits5 port6) (impl_Sends_l0 id0 l1 bits5 port6) := by
  unfold q_impl_Sends_l0 impl_Sends_l0
  repeat' (first | exact q_impl_RoleOf_le _ _ _ | refine Le'.bind ?_ fun _ => ?_ | refine Le'.cond ?_ ?_ | refine Le'.loop fun _ => ?_ | refine Le'.sum (fun _ => ?_) (fun _ => ?_) _ | exact Le'.refl _)
def q_impl_Sends (id0 : Int) (l1 : List Pt) : Option Int :=
  (qloop (fun z => q_impl_Sends_l0 id0 l1 z.1 z.2) (0, 0)).bind fun d =>
  some d
theorem q_impl_Sends_le (id0 : Int) (l1 : List Pt) : Le' (q_impl_Sends id0 l1) (impl_Sends id0 l1) := by
  unfold q_impl_Sends impl_Sends
  repeat' (first | exact q_impl_Sends_l0_le _ _ _ _ | refine Le'.bind ?_ fun _ => ?_ | refine Le'.cond ?_ ?_ | refine Le'.loop fun _ => ?_ | refine Le'.sum (fun _ => ?_) (fun _ => ?_) _ | exact Le'.refl _)
def q_impl_hasPort (bits0 : Int) (port1 : Int) : Option Bool :=
  (q_impl_in port1 0 62).bind fun t6 =>
  (cond t6
    ((shr .i64 bits0 port1).bind fun t10 =>
    some ((band .i64 t10 1) == 1))
    (some false)).bind fun t13 =>
  some t13
theorem q_impl_hasPort_le (bits0 : Int) (port1 : Int) : Le' (q_impl_hasPort bits0 port1) (impl_hasPort bits0 port1) := by
  unfold q_impl_hasPort impl_hasPort
  repeat' (first | exact q_impl_in_le _ _ _ | refine Le'.bind ?_ fun _ => ?_ | refine Le'.cond ?_ ?_ | refine Le'.loop fun _ => ?_ | refine Le'.sum (fun _ => ?_) (fun _ => ?_) _ | exact Le'.refl _)
def q_impl_more (n0 : Int) : Option Int :=
  let t2 := min2 (w64 (n0 + 1)) 1000000
  some t2
theorem q_impl_more_le (n0 : Int) : Le' (q_impl_more n0) (impl_more n0) := by
  unfold q_impl_more impl_more
  repeat' (first | refine Le'.bind ?_ fun _ => ?_ | refine Le'.cond ?_ ?_ | refine Le'.loop fun _ => ?_ | refine Le'.sum (fun _ => ?_) (fun _ => ?_) _ | exact Le'.refl _)
def q_impl_FlushPort_l0 (l0 : List Fent) (port1 : Int) (t10 : Int) (out5 : List Fent) : Option ((Int × List Fent) ⊕ (List Fent)) :=
  cond (decide (t10 < (l0.length : Int)))
    ((at? l0 t10).bind fun x12 =>
    (cond x12.2.2.2.2 (some true) (some (x12.2.2.1 != port1))).bind fun t21 =>
    cond t21
      ((app out5 [x12]).bind fun zs25 =>
      some (.inl (w64 (t10 + 1), zs25)))
      (some (.inl (w64 (t10 + 1), out5))))
    (some (.inr out5))
theorem q_impl_FlushPort_l0_le (l0 : List Fent) (port1 : Int) (t10 : Int) (out5 : List Fent) : Le' (q_impl_FlushPort_l0 l0 port1 t10 out5) (impl_FlushPort_l0 l0 port1 t10 out5) := by
  unfold q_impl_FlushPort_l0 impl_FlushPort_l0
  repeat' (first | refine Le'.bind ?_ fun _ => ?_ | refine Le'.cond ?_ ?_ | refine Le'.loop fun _ => ?_ | refine Le'.sum (fun _ => ?_) (fun _ => ?_) _ | exact Le'.refl _)
def q_impl_FlushPort (l0 : List Fent) (port1 : Int) : Option (List Fent) :=
  (qloop (fun z => q_impl_FlushPort_l0 l0 port1 z.1 z.2) (0, [])).bind fun d =>
  some d
theorem q_impl_FlushPort_le (l0 : List Fent) (port1 : Int) : Le' (q_impl_FlushPort l0 port1) (impl_FlushPort l0 port1) := by
  unfold q_impl_FlushPort impl_FlushPort
  repeat' (first | exact q_impl_FlushPort_l0_le _ _ _ _ | refine Le'.bind ?_ fun _ => ?_ | refine Le'.cond ?_ ?_ | refine Le'.loop fun _ => ?_ | refine Le'.sum (fun _ => ?_) (fun _ => ?_) _ | exact Le'.refl _)
def q_impl_Bridge_turn_l0 (b0 : Bridge) (t20 : Int) (t26 : Int) (b0_1 : Int) (b1 : List UInt8) (b6 : Int) (b7 : Int) (b8 : Int) (b9 : Int) (b10 : Int) (b3 : List Fent) : Option ((Int × Int × List UInt8 × Int × Int × Int × Int × Int × List Fent) ⊕ (Int × List UInt8 × Int × Int × Int × Int × Int × List Fent)) :=
  cond (decide (t26 < (b0.2.2.1.length : Int)))
    ((q_impl_hasPort t20 t26).bind fun t31 =>
    cond (!t31)
      ((q_impl_FlushPort b3 t26).bind fun t39 =>
      some (.inl (w64 (t26 + 1), b0_1, b1, b6, b7, b8, b9, b10, t39)))
      (some (.inl (w64 (t26 + 1), b0_1, b1, b6, b7, b8, b9, b10, b3))))
    (some (.inr (b0_1, b1, b6, b7, b8, b9, b10, b3)))
theorem q_impl_Bridge_turn_l0_le (b0 : Bridge) (t20 : Int) (t26 : Int) (b0_1 : Int) (b1 : List UInt8) (b6 : Int) (b7 : Int) (b8 : Int) (b9 : Int) (b10 : Int) (b3 : List Fent) : Le' (q_impl_Bridge_turn_l0 b0 t20 t26 b0_1 b1 b6 b7 b8 b9 b10 b3) (impl_Bridge_turn_l0 b0 t20 t26 b0_1 b1 b6 b7 b8 b9 b10 b3) := by
  unfold q_impl_Bridge_turn_l0 impl_Bridge_turn_l0
  repeat' (first | exact q_impl_hasPort_le _ _ | exact q_impl_FlushPort_le _ _ | refine Le'.bind ?_ fun _ => ?_ | refine Le'.cond ?_ ?_ | refine Le'.loop fun _ => ?_ | refine Le'.sum (fun _ => ?_) (fun _ => ?_) _ | exact Le'.refl _)
def q_impl_Bridge_turn (b0 : Bridge) : Option Bridge :=
  (q_impl_more b0.2.2.2.2.2.2.2.2.2.2).bind fun t9 =>
  (q_impl_Sends b0.1 b0.2.2.1).bind fun t20 =>
  (qloop (fun z => q_impl_Bridge_turn_l0 b0 t20 z.1 z.2.1 z.2.2.1 z.2.2.2.1 z.2.2.2.2.1 z.2.2.2.2.2.1 z.2.2.2.2.2.2.1 z.2.2.2.2.2.2.2.1 z.2.2.2.2.2.2.2.2) (0, b0.1, b0.2.1, b0.2.2.2.2.2.2.1, b0.2.2.2.2.2.2.2.1, b0.2.2.2.2.2.2.2.2.1, b0.2.2.2.2.2.2.2.2.2.1, t9, b0.2.2.2.1)).bind fun d =>
  some (d.1, d.2.1, b0.2.2.1, d.2.2.2.2.2.2.2, b0.2.2.2.2.1, b0.2.2.2.2.2.1, d.2.2.1, d.2.2.2.1, d.2.2.2.2.1, d.2.2.2.2.2.1, d.2.2.2.2.2.2.1)
theorem q_impl_Bridge_turn_le (b0 : Bridge) : Le' (q_impl_Bridge_turn b0) (impl_Bridge_turn b0) := by
  unfold q_impl_Bridge_turn impl_Bridge_turn
  repeat' (first | exact q_impl_more_le _ | exact q_impl_Sends_le _ _ | exact q_impl_Bridge_turn_l0_le _ _ _ _ _ _ _ _ _ _ _ | refine Le'.bind ?_ fun _ => ?_ | refine Le'.cond ?_ ?_ | refine Le'.loop fun _ => ?_ | refine Le'.sum (fun _ => ?_) (fun _ => ?_) _ | exact Le'.refl _)
def q_impl_LinkSet (b0 : Bridge) (port1 : Int) (up2 : Bool) : Option Bridge :=
  (q_impl_copyBridge b0).bind fun t9 =>
  (q_impl_isPort b0 port1).bind fun t12 =>
  cond t12
    ((at? b0.2.2.1 port1).bind fun x20 =>
    (ix t9.2.2.1.length port1).bind fun j24 =>
    (t9.2.2.1[j24]?).bind fun x =>
    (q_impl_Bridge_turn (t9.1, t9.2.1, t9.2.2.1.set j24 (up2, x20.2.1, false, 0, 0, 0, 0, 0), t9.2.2.2.1, t9.2.2.2.2.1, t9.2.2.2.2.2.1, t9.2.2.2.2.2.2.1, t9.2.2.2.2.2.2.2.1, t9.2.2.2.2.2.2.2.2.1, t9.2.2.2.2.2.2.2.2.2.1, t9.2.2.2.2.2.2.2.2.2.2)).bind fun t25 =>
    some t25)
    (some t9)
theorem q_impl_LinkSet_le (b0 : Bridge) (port1 : Int) (up2 : Bool) : Le' (q_impl_LinkSet b0 port1 up2) (impl_LinkSet b0 port1 up2) := by
  unfold q_impl_LinkSet impl_LinkSet
  repeat' (first | exact q_impl_copyBridge_le _ | exact q_impl_isPort_le _ _ | exact q_impl_Bridge_turn_le _ | refine Le'.bind ?_ fun _ => ?_ | refine Le'.cond ?_ ?_ | refine Le'.loop fun _ => ?_ | refine Le'.sum (fun _ => ?_) (fun _ => ?_) _ | exact Le'.refl _)
def q_impl_SameOid_l0 (a0 : List Int) (b1 : List Int) (t13 : Int) : Option (Int ⊕ (Unit ⊕ Bool)) :=
  cond (decide (t13 < (a0.length : Int)))
    ((at? a0 t13).bind fun x18 =>
    (at? b1 t13).bind fun x22 =>
    cond (x18 != x22) (some (.inr (.inr false))) (some (.inl (w64 (t13 + 1)))))
    (some (.inr (.inl ())))
theorem q_impl_SameOid_l0_le (a0 : List Int) (b1 : List Int) (t13 : Int) : Le' (q_impl_SameOid_l0 a0 b1 t13) (impl_SameOid_l0 a0 b1 t13) := by
  unfold q_impl_SameOid_l0 impl_SameOid_l0
  repeat' (first | refine Le'.bind ?_ fun _ => ?_ | refine Le'.cond ?_ ?_ | refine Le'.loop fun _ => ?_ | refine Le'.sum (fun _ => ?_) (fun _ => ?_) _ | exact Le'.refl _)
def q_impl_SameOid (a0 : List Int) (b1 : List Int) : Option Bool :=
  cond ((a0.length : Int) != (b1.length : Int))
    (some false)
    ((qloop (fun z => q_impl_SameOid_l0 a0 b1 z) 0).bind (Sum.elim (fun d =>
      some true) (fun r => some r)))
theorem q_impl_SameOid_le (a0 : List Int) (b1 : List Int) : Le' (q_impl_SameOid a0 b1) (impl_SameOid a0 b1) := by
  unfold q_impl_SameOid impl_SameOid
  repeat' (first | exact q_impl_SameOid_l0_le _ _ _ | refine Le'.bind ?_ fun _ => ?_ | refine Le'.cond ?_ ?_ | refine Le'.loop fun _ => ?_ | refine Le'.sum (fun _ => ?_) (fun _ => ?_) _ | exact Le'.refl _)
def q_impl_numbered (o0 : List Int) (low1 : Int) (high2 : Int) (head3 : List Int) : Option Bool :=
  cond ((o0.length : Int) == (w64 ((head3.length : Int) + 4)))
    ((cut o0 0 (w64 ((o0.length : Int) - 1))).bind fun t20 =>
    (app ([1, 3, 1] : List Int) head3).bind fun zs23 =>
    (q_impl_SameOid t20 zs23).bind fun t24 =>
    (cond t24
      ((at? o0 (w64 ((o0.length : Int) - 1))).bind fun x31 =>
      (q_impl_in x31 low1 high2).bind fun t35 =>
      some t35)
      (some false)).bind fun t36 =>
    some t36)
    ((some false).bind fun t36_1 =>
    some t36_1)
theorem q_impl_numbered_le (o0 : List Int) (low1 : Int) (high2 : Int) (head3 : List Int) : Le' (q_impl_numbered o0 low1 high2 head3) (impl_numbered o0 low1 high2 head3) := by
  unfold q_impl_numbered impl_numbered
  repeat' (first | exact q_impl_SameOid_le _ _ | exact q_impl_in_le _ _ _ | refine Le'.bind ?_ fun _ => ?_ | refine Le'.cond ?_ ?_ | refine Le'.loop fun _ => ?_ | refine Le'.sum (fun _ => ?_) (fun _ => ?_) _ | exact Le'.refl _)
def q_impl_canSet (b0 : Bridge) (o1 : List Int) : Option Bool :=
  (q_impl_numbered o1 1 1 ([1] : List Int)).bind fun t11 =>
  (cond t11
    (some true)
    ((q_impl_numbered o1 1 (b0.2.2.1.length : Int) ([2, 2] : List Int)).bind fun t16 =>
    some t16)).bind fun t17 =>
  (cond t17
    (some true)
    ((q_impl_numbered o1 1 (b0.2.2.1.length : Int) ([2, 4] : List Int)).bind fun t22 =>
    some t22)).bind fun t23 =>
  (cond t23
    (some true)
    ((q_impl_numbered o1 1 99 ([3, 1] : List Int)).bind fun t27 =>
    some t27)).bind fun t28 =>
  cond t28
    (some true)
    ((q_impl_numbered o1 1 99 ([3, 2] : List Int)).bind fun t31 =>
    (cond t31
      (some true)
      ((q_impl_numbered o1 1 99 ([3, 3] : List Int)).bind fun t35 =>
      some t35)).bind fun t36 =>
    (cond t36
      ((at? o1 5).bind fun x41 =>
      (q_impl_RowAt (b0.2.2.2.2.1, b0.2.2.2.2.2.1) x41).bind fun t43 =>
      some (decide (t43 ≥ 0)))
      (some false)).bind fun t45 =>
    some t45)
theorem q_impl_canSet_le (b0 : Bridge) (o1 : List Int) : Le' (q_impl_canSet b0 o1) (impl_canSet b0 o1) := by
  unfold q_impl_canSet impl_canSet
  repeat' (first | exact q_impl_numbered_le _ _ _ _ | exact q_impl_RowAt_le _ _ | refine Le'.bind ?_ fun _ => ?_ | refine Le'.cond ?_ ?_ | refine Le'.loop fun _ => ?_ | refine Le'.sum (fun _ => ?_) (fun _ => ?_) _ | exact Le'.refl _)
def q_impl_withRow_l0 (v0 : Vtab) (r1 : Vrow) (k7 : Int) : Option (Int ⊕ Int) :=
  (cond (decide (k7 < (v0.1.length : Int)))
    ((at? v0.1 k7).bind fun x31 =>
    some (decide (x31.1 ≤ r1.1)))
    (some false)).bind fun t37 =>
  cond t37 (some (.inl (w64 (k7 + 1)))) (some (.inr k7))
theorem q_impl_withRow_l0_le (v0 : Vtab) (r1 : Vrow) (k7 : Int) : Le' (q_impl_withRow_l0 v0 r1 k7) (impl_withRow_l0 v0 r1 k7) := by
  unfold q_impl_withRow_l0 impl_withRow_l0
  repeat' (first | refine Le'.bind ?_ fun _ => ?_ | refine Le'.cond ?_ ?_ | refine Le'.loop fun _ => ?_ | refine Le'.sum (fun _ => ?_) (fun _ => ?_) _ | exact Le'.refl _)
def q_impl_withRow (v0 : Vtab) (r1 : Vrow) : Option Vtab :=
  (q_impl_copyVtab v0).bind fun t9 =>
  (q_impl_RowAt v0 r1.1).bind fun t13 =>
  cond (decide (t13 ≥ 0))
    ((ix t9.1.length t13).bind fun j20 =>
    (t9.1[j20]?).bind fun x =>
    some (t9.1.set j20 r1, t9.2))
    ((qloop (fun z => q_impl_withRow_l0 v0 r1 z) 0).bind fun d =>
    (cut v0.1 0 d).bind fun t43 =>
    (app [] t43).bind fun zs44 =>
    (app zs44 [r1]).bind fun zs47 =>
    (cut v0.1 d (v0.1.length : Int)).bind fun t51 =>
    (app zs47 t51).bind fun zs52 =>
    some (zs52, t9.2))
theorem q_impl_withRow_le (v0 : Vtab) (r1 : Vrow) : Le' (q_impl_withRow v0 r1) (impl_withRow v0 r1) := by
  unfold q_impl_withRow impl_withRow
  repeat' (first | exact q_impl_copyVtab_le _ | exact q_impl_RowAt_le _ _ | exact q_impl_withRow_l0_le _ _ _ | refine Le'.bind ?_ fun _ => ?_ | refine Le'.cond ?_ ?_ | refine Le'.loop fun _ => ?_ | refine Le'.sum (fun _ => ?_) (fun _ => ?_) _ | exact Le'.refl _)
def q_impl_withoutRow (v0 : Vtab) (id1 : Int) : Option Vtab :=
  (q_impl_copyVtab v0).bind fun t8 =>
  (q_impl_RowAt v0 id1).bind fun t11 =>
  cond (decide (t11 ≥ 0))
    ((cut v0.1 0 t11).bind fun t17 =>
    (app [] t17).bind fun zs18 =>
    (cut v0.1 (w64 (t11 + 1)) (v0.1.length : Int)).bind fun t23 =>
    (app zs18 t23).bind fun zs24 =>
    some (zs24, t8.2))
    (some t8)
theorem q_impl_withoutRow_le (v0 : Vtab) (id1 : Int) : Le' (q_impl_withoutRow v0 id1) (impl_withoutRow v0 id1) := by
  unfold q_impl_withoutRow impl_withoutRow
  repeat' (first | exact q_impl_copyVtab_le _ | exact q_impl_RowAt_le _ _ | refine Le'.bind ?_ fun _ => ?_ | refine Le'.cond ?_ ?_ | refine Le'.loop fun _ => ?_ | refine Le'.sum (fun _ => ?_) (fun _ => ?_) _ | exact Le'.refl _)
def q_impl_Bridge_setRow (p0 : Bridge) (i1 : Int) (a2 : Int) (a3 : Int) : Option (Bridge × Int) :=
  (q_impl_RowAt (p0.2.2.2.2.1, p0.2.2.2.2.2.1) a2).bind fun t15 =>
  cond (i1 == 1)
    ((cond (a3 == 4) (some (decide (t15 < 0))) (some false)).bind fun t24 =>
    (cond t24 (some (decide ((p0.2.2.2.2.1.length : Int) < 6))) (some false)).bind fun t33 =>
    cond t33
      ((q_impl_withRow (p0.2.2.2.2.1, p0.2.2.2.2.2.1) (a2, 0, 0)).bind fun t41 =>
      some ((p0.1, p0.2.1, p0.2.2.1, p0.2.2.2.1, t41.1, t41.2, p0.2.2.2.2.2.2.1, p0.2.2.2.2.2.2.2.1, p0.2.2.2.2.2.2.2.2.1, p0.2.2.2.2.2.2.2.2.2.1, p0.2.2.2.2.2.2.2.2.2.2), 0))
      ((cond (a3 == 6) (some (decide (t15 ≥ 0))) (some false)).bind fun t50 =>
      cond t50
        ((q_impl_withoutRow (p0.2.2.2.2.1, p0.2.2.2.2.2.1) a2).bind fun t57 =>
        some ((p0.1, p0.2.1, p0.2.2.1, p0.2.2.2.1, t57.1, t57.2, p0.2.2.2.2.2.2.1, p0.2.2.2.2.2.2.2.1, p0.2.2.2.2.2.2.2.2.1, p0.2.2.2.2.2.2.2.2.2.1, p0.2.2.2.2.2.2.2.2.2.2), 0))
        (some (p0, 2))))
    ((q_impl_allPorts (p0.2.2.1.length : Int)).bind fun t66 =>
    (q_impl_in a3 0 t66).bind fun t67 =>
    cond (!t67)
      (some (p0, 2))
      (cond (i1 == 2)
        ((ix p0.2.2.2.2.1.length t15).bind fun j78 =>
        (p0.2.2.2.2.1[j78]?).bind fun x =>
        some ((p0.1, p0.2.1, p0.2.2.1, p0.2.2.2.1, p0.2.2.2.2.1.set j78 (x.1, a3, x.2.2), p0.2.2.2.2.2.1, p0.2.2.2.2.2.2.1, p0.2.2.2.2.2.2.2.1, p0.2.2.2.2.2.2.2.2.1, p0.2.2.2.2.2.2.2.2.2.1, p0.2.2.2.2.2.2.2.2.2.2), 0))
        ((ix p0.2.2.2.2.1.length t15).bind fun j87 =>
        (p0.2.2.2.2.1[j87]?).bind fun x_1 =>
        some ((p0.1, p0.2.1, p0.2.2.1, p0.2.2.2.1, p0.2.2.2.2.1.set j87 (x_1.1, x_1.2.1, a3), p0.2.2.2.2.2.1, p0.2.2.2.2.2.2.1, p0.2.2.2.2.2.2.2.1, p0.2.2.2.2.2.2.2.2.1, p0.2.2.2.2.2.2.2.2.2.1, p0.2.2.2.2.2.2.2.2.2.2), 0))))
theorem q_impl_Bridge_setRow_le (p0 : Bridge) (i1 : Int) (a2 : Int) (a3 : Int) : Le' (q_impl_Bridge_setRow p0 i1 a2 a3) (impl_Bridge_setRow p0 i1 a2 a3) := by
  unfold q_impl_Bridge_setRow impl_Bridge_setRow
  repeat' (first | exact q_impl_RowAt_le _ _ | exact q_impl_withRow_le _ _ | exact q_impl_withoutRow_le _ _ | exact q_impl_allPorts_le _ | exact q_impl_in_le _ _ _ | refine Le'.bind ?_ fun _ => ?_ | refine Le'.cond ?_ ?_ | refine Le'.loop fun _ => ?_ | refine Le'.sum (fun _ => ?_) (fun _ => ?_) _ | exact Le'.refl _)
def q_impl_Bridge_setThing (p0 : Bridge) (i1 : List Int) (a2 : Val) : Option (Bridge × Int) :=
  (at? i1 3).bind fun x9 =>
  (cond (x9 == 1) (some (a2.1 != 4)) (some false)).bind fun t17 =>
  (cond t17
    (some true)
    ((cond (!(x9 == 1)) (some (a2.1 != 2)) (some false)).bind fun t25 =>
    some t25)).bind fun t26 =>
  cond t26
    (some (p0, 1))
    (cond (x9 == 1)
      (cond (decide ((a2.2.2.1.length : Int) > 10))
        (some (p0, 2))
        (some ((p0.1, a2.2.2.1, p0.2.2.1, p0.2.2.2.1, p0.2.2.2.2.1, p0.2.2.2.2.2.1, p0.2.2.2.2.2.2.1, p0.2.2.2.2.2.2.2.1, p0.2.2.2.2.2.2.2.2.1, p0.2.2.2.2.2.2.2.2.2.1, p0.2.2.2.2.2.2.2.2.2.2), 0)))
      ((at? i1 3).bind fun x52 =>
      cond (x52 == 3)
        ((at? i1 4).bind fun x57 =>
        (at? i1 5).bind fun x60 =>
        (q_impl_Bridge_setRow p0 x57 x60 a2.2.1).bind fun t64 =>
        some t64)
        ((at? i1 4).bind fun x67 =>
        cond (x67 == 2)
          ((q_impl_in a2.2.1 1 1000).bind fun t72 =>
          cond (!t72)
            (some (p0, 2))
            ((at? i1 5).bind fun x79 =>
            (ix p0.2.2.1.length (w64 (x79 - 1))).bind fun j84 =>
            (p0.2.2.1[j84]?).bind fun x =>
            some ((p0.1, p0.2.1, p0.2.2.1.set j84 (x.1, a2.2.1, x.2.2.1, x.2.2.2.1, x.2.2.2.2.1, x.2.2.2.2.2.1, x.2.2.2.2.2.2.1, x.2.2.2.2.2.2.2), p0.2.2.2.1, p0.2.2.2.2.1, p0.2.2.2.2.2.1, p0.2.2.2.2.2.2.1, p0.2.2.2.2.2.2.2.1, p0.2.2.2.2.2.2.2.2.1, p0.2.2.2.2.2.2.2.2.2.1, p0.2.2.2.2.2.2.2.2.2.2), 0)))
          ((at? i1 5).bind fun x33 =>
          (ix p0.2.2.2.2.2.1.length (w64 (x33 - 1))).bind fun j38 =>
          (p0.2.2.2.2.2.1[j38]?).bind fun x_1 =>
          some ((p0.1, p0.2.1, p0.2.2.1, p0.2.2.2.1, p0.2.2.2.2.1, p0.2.2.2.2.2.1.set j38 a2.2.1, p0.2.2.2.2.2.2.1, p0.2.2.2.2.2.2.2.1, p0.2.2.2.2.2.2.2.2.1, p0.2.2.2.2.2.2.2.2.2.1, p0.2.2.2.2.2.2.2.2.2.2), 0)))))
theorem q_impl_Bridge_setThing_le (p0 : Bridge) (i1 : List Int) (a2 : Val) : Le' (q_impl_Bridge_setThing p0 i1 a2) (impl_Bridge_setThing p0 i1 a2) := by
  unfold q_impl_Bridge_setThing impl_Bridge_setThing
  repeat' (first | exact q_impl_Bridge_setRow_le _ _ _ _ | exact q_impl_in_le _ _ _ | refine Le'.bind ?_ fun _ => ?_ | refine Le'.cond ?_ ?_ | refine Le'.loop fun _ => ?_ | refine Le'.sum (fun _ => ?_) (fun _ => ?_) _ | exact Le'.refl _)
def q_impl_entAt_l0 (l0 : List Fent) (tag1 : Int) (mac2 : Int) (t11 : Int) : Option (Int ⊕ (Unit ⊕ Int)) :=
  cond (decide (t11 < (l0.length : Int)))
    ((at? l0 t11).bind fun x14 =>
    (cond (x14.1 == tag1) (some (x14.2.1 == mac2)) (some false)).bind fun t25 =>
    cond t25 (some (.inr (.inr t11))) (some (.inl (w64 (t11 + 1)))))
    (some (.inr (.inl ())))
theorem q_impl_entAt_l0_le (l0 : List Fent) (tag1 : Int) (mac2 : Int) (t11 : Int) : Le' (q_impl_entAt_l0 l0 tag1 mac2 t11) (impl_entAt_l0 l0 tag1 mac2 t11) := by
  unfold q_impl_entAt_l0 impl_entAt_l0
  repeat' (first | refine Le'.bind ?_ fun _ => ?_ | refine Le'.cond ?_ ?_ | refine Le'.loop fun _ => ?_ | refine Le'.sum (fun _ => ?_) (fun _ => ?_) _ | exact Le'.refl _)
def q_impl_entAt (l0 : List Fent) (tag1 : Int) (mac2 : Int) : Option Int :=
  (qloop (fun z => q_impl_entAt_l0 l0 tag1 mac2 z) 0).bind (Sum.elim (fun d =>
    some (-1)) (fun r => some r))
theorem q_impl_entAt_le (l0 : List Fent) (tag1 : Int) (mac2 : Int) : Le' (q_impl_entAt l0 tag1 mac2) (impl_entAt l0 tag1 mac2) := by
  unfold q_impl_entAt impl_entAt
  repeat' (first | exact q_impl_entAt_l0_le _ _ _ _ | refine Le'.bind ?_ fun _ => ?_ | refine Le'.cond ?_ ?_ | refine Le'.loop fun _ => ?_ | refine Le'.sum (fun _ => ?_) (fun _ => ?_) _ | exact Le'.refl _)
def q_impl_canRead (b0 : Bridge) (o1 : List Int) : Option Bool :=
  (q_impl_numbered o1 2 5 ([1] : List Int)).bind fun t11 =>
  (cond t11
    (some true)
    ((q_impl_numbered o1 1 (b0.2.2.1.length : Int) ([2, 1] : List Int)).bind fun t16 =>
    some t16)).bind fun t17 =>
  (cond t17
    (some true)
    ((q_impl_numbered o1 1 (b0.2.2.1.length : Int) ([2, 3] : List Int)).bind fun t22 =>
    some t22)).bind fun t23 =>
  cond t23
    (some true)
    ((cond ((o1.length : Int) == 7)
      ((cut o1 0 5).bind fun t29 =>
      (q_impl_SameOid t29 ([1, 3, 1, 4, 1] : List Int)).bind fun t31 =>
      some t31)
      (some false)).bind fun t32 =>
    (cond t32
      ((at? o1 5).bind fun x37 =>
      (at? o1 6).bind fun x40 =>
      (q_impl_entAt b0.2.2.2.1 x37 x40).bind fun t42 =>
      some (decide (t42 ≥ 0)))
      (some false)).bind fun t44 =>
    some t44)
theorem q_impl_canRead_le (b0 : Bridge) (o1 : List Int) : Le' (q_impl_canRead b0 o1) (impl_canRead b0 o1) := by
  unfold q_impl_canRead impl_canRead
  repeat' (first | exact q_impl_numbered_le _ _ _ _ | exact q_impl_SameOid_le _ _ | exact q_impl_entAt_le _ _ _ | refine Le'.bind ?_ fun _ => ?_ | refine Le'.cond ?_ ?_ | refine Le'.loop fun _ => ?_ | refine Le'.sum (fun _ => ?_) (fun _ => ?_) _ | exact Le'.refl _)
def q_impl_Bridge_set (b0 : Bridge) (x1 : Bind) : Option (Bridge × Int) :=
  (q_impl_canSet b0 x1.1).bind fun t11 =>
  cond t11
    ((q_impl_Bridge_setThing b0 x1.1 x1.2).bind fun t17 =>
    some t17)
    ((q_impl_canRead b0 x1.1).bind fun t24 =>
    cond t24 (some (b0, 4)) (some (b0, 3)))
theorem q_impl_Bridge_set_le (b0 : Bridge) (x1 : Bind) : Le' (q_impl_Bridge_set b0 x1) (impl_Bridge_set b0 x1) := by
  unfold q_impl_Bridge_set impl_Bridge_set
  repeat' (first | exact q_impl_canSet_le _ _ | exact q_impl_Bridge_setThing_le _ _ _ | exact q_impl_canRead_le _ _ | refine Le'.bind ?_ fun _ => ?_ | refine Le'.cond ?_ ?_ | refine Le'.loop fun _ => ?_ | refine Le'.sum (fun _ => ?_) (fun _ => ?_) _ | exact Le'.refl _)
def q_impl_SetAll_l2 (p0 : Bridge) (t25 : Int) (x28 : Bind) (t32 : List Bind) (t34 : Int) (b0_2 : Int) (b1_2 : List UInt8) (b6_2 : Int) (b7_2 : Int) (b8_2 : Int) (b9_2 : Int) (b10_2 : Int) : Option ((Int × Int × List UInt8 × Int × Int × Int × Int × Int) ⊕ ((Int × List UInt8 × Int × Int × Int × Int × Int) ⊕ (Int × Int × Int × List UInt8 × Int × Int × Int × Int × Int × List Pt × List Fent × List Vrow × List Int))) :=
  cond (decide (t34 < (t32.length : Int)))
    ((at? t32 t34).bind fun x36 =>
    (q_impl_SameOid x28.1 x36.1).bind fun t42 =>
    cond t42
      ((q_impl_copyBridge p0).bind fun t44 =>
      some (.inr (.inr (5, w64 (t25 + 1), t44.1, t44.2.1, t44.2.2.2.2.2.2.1, t44.2.2.2.2.2.2.2.1, t44.2.2.2.2.2.2.2.2.1, t44.2.2.2.2.2.2.2.2.2.1, t44.2.2.2.2.2.2.2.2.2.2, t44.2.2.1, t44.2.2.2.1, t44.2.2.2.2.1, t44.2.2.2.2.2.1))))
      (some (.inl (w64 (t34 + 1), b0_2, b1_2, b6_2, b7_2, b8_2, b9_2, b10_2))))
    (some (.inr (.inl (b0_2, b1_2, b6_2, b7_2, b8_2, b9_2, b10_2))))
theorem q_impl_SetAll_l2_le (p0 : Bridge) (t25 : Int) (x28 : Bind) (t32 : List Bind) (t34 : Int) (b0_2 : Int) (b1_2 : List UInt8) (b6_2 : Int) (b7_2 : Int) (b8_2 : Int) (b9_2 : Int) (b10_2 : Int) : Le' (q_impl_SetAll_l2 p0 t25 x28 t32 t34 b0_2 b1_2 b6_2 b7_2 b8_2 b9_2 b10_2) (impl_SetAll_l2 p0 t25 x28 t32 t34 b0_2 b1_2 b6_2 b7_2 b8_2 b9_2 b10_2) := by
  unfold q_impl_SetAll_l2 impl_SetAll_l2
  repeat' (first | exact q_impl_SameOid_le _ _ | exact q_impl_copyBridge_le _ | refine Le'.bind ?_ fun _ => ?_ | refine Le'.cond ?_ ?_ | refine Le'.loop fun _ => ?_ | refine Le'.sum (fun _ => ?_) (fun _ => ?_) _ | exact Le'.refl _)
def q_impl_SetAll_l0 (p0 : Bridge) (i1 : List Bind) (t25 : Int) (b0 : Int) (b1 : List UInt8) (b6 : Int) (b7 : Int) (b8 : Int) (b9 : Int) (b10 : Int) (b0_1 : Int) (b1_1 : List UInt8) (b6_1 : Int) (b7_1 : Int) (b8_1 : Int) (b9_1 : Int) (b10_1 : Int) (b2 : List Pt) (b3 : List Fent) (b4 : List Vrow) (b5 : List Int) (b2_1 : List Pt) (b3_1 : List Fent) (b4_1 : List Vrow) (b5_1 : List Int) : Option ((Int × Int × List UInt8 × Int × Int × Int × Int × Int × Int × List UInt8 × Int × Int × Int × Int × Int × List Pt × List Fent × List Vrow × List Int × List Pt × List Fent × List Vrow × List Int) ⊕ ((Int × List UInt8 × Int × Int × Int × Int × Int × Int × List UInt8 × Int × Int × Int × Int × Int × List Pt × List Fent × List Vrow × List Int × List Pt × List Fent × List Vrow × List Int) ⊕ (Int × Int × Int × List UInt8 × Int × Int × Int × Int × Int × List Pt × List Fent × List Vrow × List Int))) :=
  cond (decide (t25 < (i1.length : Int)))
    ((at? i1 t25).bind fun x28 =>
    (cut i1 0 t25).bind fun t32 =>
    (qloop (fun z => q_impl_SetAll_l2 p0 t25 x28 t32 z.1 z.2.1 z.2.2.1 z.2.2.2.1 z.2.2.2.2.1 z.2.2.2.2.2.1 z.2.2.2.2.2.2.1 z.2.2.2.2.2.2.2) (0, b0, b1, b6, b7, b8, b9, b10)).bind (Sum.elim (fun d =>
      (q_impl_Bridge_set (b0_1, b1_1, b2_1, b3_1, b4_1, b5_1, b6_1, b7_1, b8_1, b9_1, b10_1) x28).bind fun t49 =>
      cond (t49.2 != 0)
        ((q_impl_copyBridge p0).bind fun t53 =>
        some (.inr (.inr (t49.2, w64 (t25 + 1), t53.1, t53.2.1, t53.2.2.2.2.2.2.1, t53.2.2.2.2.2.2.2.1, t53.2.2.2.2.2.2.2.2.1, t53.2.2.2.2.2.2.2.2.2.1, t53.2.2.2.2.2.2.2.2.2.2, t53.2.2.1, t53.2.2.2.1, t53.2.2.2.2.1, t53.2.2.2.2.2.1))))
        (some (.inl (w64 (t25 + 1), d.1, d.2.1, d.2.2.1, d.2.2.2.1, d.2.2.2.2.1, d.2.2.2.2.2.1, d.2.2.2.2.2.2, t49.1.1, t49.1.2.1, t49.1.2.2.2.2.2.2.1, t49.1.2.2.2.2.2.2.2.1, t49.1.2.2.2.2.2.2.2.2.1, t49.1.2.2.2.2.2.2.2.2.2.1, t49.1.2.2.2.2.2.2.2.2.2.2, b2, b3, b4, b5, t49.1.2.2.1, t49.1.2.2.2.1, t49.1.2.2.2.2.1, t49.1.2.2.2.2.2.1)))) (fun r => some (.inr (.inr r)))))
    (some (.inr (.inl (b0, b1, b6, b7, b8, b9, b10, b0_1, b1_1, b6_1, b7_1, b8_1, b9_1, b10_1, b2, b3, b4, b5, b2_1, b3_1, b4_1, b5_1))))
theorem q_impl_SetAll_l0_le (p0 : Bridge) (i1 : List Bind) (t25 : Int) (b0 : Int) (b1 : List UInt8) (b6 : Int) (b7 : Int) (b8 : Int) (b9 : Int) (b10 : Int) (b0_1 : Int) (b1_1 : List UInt8) (b6_1 : Int) (b7_1 : Int) (b8_1 : Int) (b9_1 : Int) (b10_1 : Int) (b2 : List Pt) (b3 : List Fent) (b4 : List Vrow) (b5 : List Int) (b2_1 : List Pt) (b3_1 : List Fent) (b4_1 : List Vrow) (b5_1 : List Int) : Le' (q_impl_SetAll_l0 p0 i1 t25 b0 b1 b6 b7 b8 b9 b10 b0_1 b1_1 b6_1 b7_1 b8_1 b9_1 b10_1 b2 b3 b4 b5 b2_1 b3_1 b4_1 b5_1) (impl_SetAll_l0 p0 i1 t25 b0 b1 b6 b7 b8 b9 b10 b0_1 b1_1 b6_1 b7_1 b8_1 b9_1 b10_1 b2 b3 b4 b5 b2_1 b3_1 b4_1 b5_1) := by
  unfold q_impl_SetAll_l0 impl_SetAll_l0
  repeat' (first | exact q_impl_SetAll_l2_le _ _ _ _ _ _ _ _ _ _ _ _ | exact q_impl_Bridge_set_le _ _ | exact q_impl_copyBridge_le _ | refine Le'.bind ?_ fun _ => ?_ | refine Le'.cond ?_ ?_ | refine Le'.loop fun _ => ?_ | refine Le'.sum (fun _ => ?_) (fun _ => ?_) _ | exact Le'.refl _)
def q_impl_SetAll (p0 : Bridge) (i1 : List Bind) : Option (Bridge × Int × Int) :=
  (q_impl_copyBridge p0).bind fun t14 =>
  cond ((i1.length : Int) == 0)
    (some (t14, 0, 0))
    ((q_impl_BridgeOk p0).bind fun t20 =>
    cond (!t20)
      (some (t14, 3, 1))
      ((qloop (fun z => q_impl_SetAll_l0 p0 i1 z.1 z.2.1 z.2.2.1 z.2.2.2.1 z.2.2.2.2.1 z.2.2.2.2.2.1 z.2.2.2.2.2.2.1 z.2.2.2.2.2.2.2.1 z.2.2.2.2.2.2.2.2.1 z.2.2.2.2.2.2.2.2.2.1 z.2.2.2.2.2.2.2.2.2.2.1 z.2.2.2.2.2.2.2.2.2.2.2.1 z.2.2.2.2.2.2.2.2.2.2.2.2.1 z.2.2.2.2.2.2.2.2.2.2.2.2.2.1 z.2.2.2.2.2.2.2.2.2.2.2.2.2.2.1 z.2.2.2.2.2.2.2.2.2.2.2.2.2.2.2.1 z.2.2.2.2.2.2.2.2.2.2.2.2.2.2.2.2.1 z.2.2.2.2.2.2.2.2.2.2.2.2.2.2.2.2.2.1 z.2.2.2.2.2.2.2.2.2.2.2.2.2.2.2.2.2.2.1 z.2.2.2.2.2.2.2.2.2.2.2.2.2.2.2.2.2.2.2.1 z.2.2.2.2.2.2.2.2.2.2.2.2.2.2.2.2.2.2.2.2.1 z.2.2.2.2.2.2.2.2.2.2.2.2.2.2.2.2.2.2.2.2.2.1 z.2.2.2.2.2.2.2.2.2.2.2.2.2.2.2.2.2.2.2.2.2.2) (0, 0, [], 0, 0, 0, 0, 0, t14.1, t14.2.1, t14.2.2.2.2.2.2.1, t14.2.2.2.2.2.2.2.1, t14.2.2.2.2.2.2.2.2.1, t14.2.2.2.2.2.2.2.2.2.1, t14.2.2.2.2.2.2.2.2.2.2, [], [], [], [], t14.2.2.1, t14.2.2.2.1, t14.2.2.2.2.1, t14.2.2.2.2.2.1)).bind (Sum.elim (fun d_1 =>
        (q_impl_VtabOk d_1.2.2.2.2.2.2.2.2.2.2.2.2.2.2.2.2.2.2.2.2 (d_1.2.2.2.2.2.2.2.2.2.2.2.2.2.2.2.2.2.2.1.length : Int)).bind fun t63 =>
        cond (!t63)
          ((q_impl_copyBridge p0).bind fun t66 =>
          some (t66, 5, (i1.length : Int)))
          ((q_impl_Bridge_turn (d_1.2.2.2.2.2.2.2.1, d_1.2.2.2.2.2.2.2.2.1, d_1.2.2.2.2.2.2.2.2.2.2.2.2.2.2.2.2.2.2.1, d_1.2.2.2.2.2.2.2.2.2.2.2.2.2.2.2.2.2.2.2.1, d_1.2.2.2.2.2.2.2.2.2.2.2.2.2.2.2.2.2.2.2.2.1, d_1.2.2.2.2.2.2.2.2.2.2.2.2.2.2.2.2.2.2.2.2.2, d_1.2.2.2.2.2.2.2.2.2.1, d_1.2.2.2.2.2.2.2.2.2.2.1, d_1.2.2.2.2.2.2.2.2.2.2.2.1, d_1.2.2.2.2.2.2.2.2.2.2.2.2.1, d_1.2.2.2.2.2.2.2.2.2.2.2.2.2.1)).bind fun t69 =>
          some (t69, 0, 0))) (fun r_1 => some ((r_1.2.2.1, r_1.2.2.2.1, r_1.2.2.2.2.2.2.2.2.2.1, r_1.2.2.2.2.2.2.2.2.2.2.1, r_1.2.2.2.2.2.2.2.2.2.2.2.1, r_1.2.2.2.2.2.2.2.2.2.2.2.2, r_1.2.2.2.2.1, r_1.2.2.2.2.2.1, r_1.2.2.2.2.2.2.1, r_1.2.2.2.2.2.2.2.1, r_1.2.2.2.2.2.2.2.2.1), r_1.1, r_1.2.1)))))
theorem q_impl_SetAll_le (p0 : Bridge) (i1 : List Bind) : Le' (q_impl_SetAll p0 i1) (impl_SetAll p0 i1) := by
  unfold q_impl_SetAll impl_SetAll
  repeat' (first | exact q_impl_copyBridge_le _ | exact q_impl_BridgeOk_le _ | exact q_impl_SetAll_l0_le _ _ _ _ _ _ _ _ _ _ _ _ _ _ _ _ _ _ _ _ _ _ _ _ _ | exact q_impl_VtabOk_le _ _ | exact q_impl_Bridge_turn_le _ | refine Le'.bind ?_ fun _ => ?_ | refine Le'.cond ?_ ?_ | refine Le'.loop fun _ => ?_ | refine Le'.sum (fun _ => ?_) (fun _ => ?_) _ | exact Le'.refl _)
def q_laws_number (n0 : Int) : Option Val :=
  some (2, n0, [], [])
theorem q_laws_number_le (n0 : Int) : Le' (q_laws_number n0) (laws_number n0) := by
  unfold q_laws_number laws_number
  repeat' (first | refine Le'.bind ?_ fun _ => ?_ | refine Le'.cond ?_ ?_ | refine Le'.loop fun _ => ?_ | refine Le'.sum (fun _ => ?_) (fun _ => ?_) _ | exact Le'.refl _)
def q_laws_at (code0 : List Int) (i1 : Int) : Option Int :=
  cond (decide (i1 < (code0.length : Int)))
    ((at? code0 i1).bind fun x11 =>
    some (w64 (x11)))
    (let t4 := (w64 ((w64 (i1 * 31)) + (w64 ((code0.length : Int) * 7)))).tmod 256
    some t4)
theorem q_laws_at_le (code0 : List Int) (i1 : Int) : Le' (q_laws_at code0 i1) (laws_at code0 i1) := by
  unfold q_laws_at laws_at
  repeat' (first | refine Le'.bind ?_ fun _ => ?_ | refine Le'.cond ?_ ?_ | refine Le'.loop fun _ => ?_ | refine Le'.sum (fun _ => ?_) (fun _ => ?_) _ | exact Le'.refl _)
def q_impl_FrameOk (f0 : Frame) : Option Bool :=
  (q_impl_in f0.1 0 9999).bind fun t5 =>
  (cond t5
    ((q_impl_in f0.2.1 1 9999).bind fun t9 =>
    some t9)
    (some false)).bind fun t10 =>
  (cond t10
    ((q_impl_in f0.2.2.1 0 99).bind fun t14 =>
    some t14)
    (some false)).bind fun t15 =>
  (cond t15 (some (decide ((f0.2.2.2.length : Int) ≤ 20))) (some false)).bind fun t21 =>
  some t21
theorem q_impl_FrameOk_le (f0 : Frame) : Le' (q_impl_FrameOk f0) (impl_FrameOk f0) := by
  unfold q_impl_FrameOk impl_FrameOk
  repeat' (first | exact q_impl_in_le _ _ _ | refine Le'.bind ?_ fun _ => ?_ | refine Le'.cond ?_ ?_ | refine Le'.loop fun _ => ?_ | refine Le'.sum (fun _ => ?_) (fun _ => ?_) _ | exact Le'.refl _)
def q_impl_ClassOf (v0 : Vtab) (port1 : Int) (tag2 : Int) : Option (Int × Bool) :=
  (q_impl_in port1 0 (w64 ((v0.2.length : Int) - 1))).bind fun t15 =>
  cond (!t15)
    (some (0, false))
    (cond (tag2 == 0)
      ((at? v0.2 port1).bind fun x23 =>
      (q_impl_RowAt v0 x23).bind fun t27 =>
      (cond (decide (t27 < 0))
        (some true)
        ((at? v0.1 t27).bind fun x34 =>
        (q_impl_hasPort x34.2.1 port1).bind fun t38 =>
        some (!t38))).bind fun t40 =>
      cond t40 (some (0, false)) (some (x23, true)))
      ((q_impl_RowAt v0 tag2).bind fun t27_1 =>
      (cond (decide (t27_1 < 0))
        (some true)
        ((at? v0.1 t27_1).bind fun x34_1 =>
        (q_impl_hasPort x34_1.2.1 port1).bind fun t38_1 =>
        some (!t38_1))).bind fun t40_1 =>
      cond t40_1 (some (0, false)) (some (tag2, true))))
theorem q_impl_ClassOf_le (v0 : Vtab) (port1 : Int) (tag2 : Int) : Le' (q_impl_ClassOf v0 port1 tag2) (impl_ClassOf v0 port1 tag2) := by
  unfold q_impl_ClassOf impl_ClassOf
  repeat' (first | exact q_impl_in_le _ _ _ | exact q_impl_RowAt_le _ _ | exact q_impl_hasPort_le _ _ | refine Le'.bind ?_ fun _ => ?_ | refine Le'.cond ?_ ?_ | refine Le'.loop fun _ => ?_ | refine Le'.sum (fun _ => ?_) (fun _ => ?_) _ | exact Le'.refl _)
def q_impl_put_l0 (l0 : List Fent) (e1 : Fent) (k8 : Int) : Option (Int ⊕ Int) :=
  (cond (decide (k8 < (l0.length : Int)))
    ((at? l0 k8).bind fun x35 =>
    (q_impl_behind x35 e1.1 e1.2.1).bind fun t41 =>
    some (!t41))
    (some false)).bind fun t43 =>
  cond t43 (some (.inl (w64 (k8 + 1)))) (some (.inr k8))
theorem q_impl_put_l0_le (l0 : List Fent) (e1 : Fent) (k8 : Int) : Le' (q_impl_put_l0 l0 e1 k8) (impl_put_l0 l0 e1 k8) := by
  unfold q_impl_put_l0 impl_put_l0
  repeat' (first | exact q_impl_behind_le _ _ _ | refine Le'.bind ?_ fun _ => ?_ | refine Le'.cond ?_ ?_ | refine Le'.loop fun _ => ?_ | refine Le'.sum (fun _ => ?_) (fun _ => ?_) _ | exact Le'.refl _)
def q_impl_put (l0 : List Fent) (e1 : Fent) : Option ((List Fent) × Bool) :=
  (q_impl_copyFdb l0).bind fun t10 =>
  (q_impl_entAt l0 e1.1 e1.2.1).bind fun t16 =>
  cond (decide (t16 ≥ 0))
    ((ix t10.length t16).bind fun j22 =>
    (t10[j22]?).bind fun x =>
    some (t10.set j22 e1, true))
    (cond (decide ((l0.length : Int) ≥ 12))
      (some (t10, false))
      ((qloop (fun z => q_impl_put_l0 l0 e1 z) 0).bind fun d =>
      (cut l0 0 d).bind fun t48 =>
      (q_impl_copyFdb t48).bind fun t49 =>
      (app t49 [e1]).bind fun zs52 =>
      (cut l0 d (l0.length : Int)).bind fun t55 =>
      (app zs52 t55).bind fun zs56 =>
      some (zs56, true)))
theorem q_impl_put_le (l0 : List Fent) (e1 : Fent) : Le' (q_impl_put l0 e1) (impl_put l0 e1) := by
  unfold q_impl_put impl_put
  repeat' (first | exact q_impl_copyFdb_le _ | exact q_impl_entAt_le _ _ _ | exact q_impl_put_l0_le _ _ _ | refine Le'.bind ?_ fun _ => ?_ | refine Le'.cond ?_ ?_ | refine Le'.loop fun _ => ?_ | refine Le'.sum (fun _ => ?_) (fun _ => ?_) _ | exact Le'.refl _)
def q_impl_Learn (l0 : List Fent) (tag1 : Int) (mac2 : Int) (port3 : Int) : Option (List Fent) :=
  (q_impl_entAt l0 tag1 mac2).bind fun t20 =>
  (q_impl_FdbOk l0).bind fun t22 =>
  (cond (!t22)
    (some true)
    ((q_impl_fentOk (tag1, mac2, port3, 0, false)).bind fun t26 =>
    some (!t26))).bind fun t28 =>
  (cond t28
    (some true)
    ((cond (decide (t20 ≥ 0))
      ((at? l0 t20).bind fun x35 =>
      some x35.2.2.2.2)
      (some false)).bind fun t38 =>
    some t38)).bind fun t39 =>
  cond t39
    ((q_impl_copyFdb l0).bind fun t41 =>
    some t41)
    ((q_impl_put l0 (tag1, mac2, port3, 0, false)).bind fun t45 =>
    some t45.1)
theorem q_impl_Learn_le (l0 : List Fent) (tag1 : Int) (mac2 : Int) (port3 : Int) : Le' (q_impl_Learn l0 tag1 mac2 port3) (impl_Learn l0 tag1 mac2 port3) := by
  unfold q_impl_Learn impl_Learn
  repeat' (first | exact q_impl_entAt_le _ _ _ | exact q_impl_FdbOk_le _ | exact q_impl_fentOk_le _ | exact q_impl_copyFdb_le _ | exact q_impl_put_le _ _ | refine Le'.bind ?_ fun _ => ?_ | refine Le'.cond ?_ ?_ | refine Le'.loop fun _ => ?_ | refine Le'.sum (fun _ => ?_) (fun _ => ?_) _ | exact Le'.refl _)
def q_impl_LookUp (l0 : List Fent) (tag1 : Int) (mac2 : Int) : Option Int :=
  (q_impl_entAt l0 tag1 mac2).bind fun t11 =>
  cond (decide (t11 < 0))
    (some (-1))
    ((at? l0 t11).bind fun x16 =>
    some x16.2.2.1)
theorem q_impl_LookUp_le (l0 : List Fent) (tag1 : Int) (mac2 : Int) : Le' (q_impl_LookUp l0 tag1 mac2) (impl_LookUp l0 tag1 mac2) := by
  unfold q_impl_LookUp impl_LookUp
  repeat' (first | exact q_impl_entAt_le _ _ _ | refine Le'.bind ?_ fun _ => ?_ | refine Le'.cond ?_ ?_ | refine Le'.loop fun _ => ?_ | refine Le'.sum (fun _ => ?_) (fun _ => ?_) _ | exact Le'.refl _)
def q_impl_EgressOf (v0 : Vtab) (id1 : Int) : Option Int :=
  (q_impl_RowAt v0 id1).bind fun t8 =>
  cond (decide (t8 < 0))
    (some 0)
    ((at? v0.1 t8).bind fun x14 =>
    some x14.2.1)
theorem q_impl_EgressOf_le (v0 : Vtab) (id1 : Int) : Le' (q_impl_EgressOf v0 id1) (impl_EgressOf v0 id1) := by
  unfold q_impl_EgressOf impl_EgressOf
  repeat' (first | exact q_impl_RowAt_le _ _ | refine Le'.bind ?_ fun _ => ?_ | refine Le'.cond ?_ ?_ | refine Le'.loop fun _ => ?_ | refine Le'.sum (fun _ => ?_) (fun _ => ?_) _ | exact Le'.refl _)
def q_impl_copyBytes (b0 : List Int) : Option (List Int) :=
  (app [] b0).bind fun zs4 =>
  some zs4
theorem q_impl_copyBytes_le (b0 : List Int) : Le' (q_impl_copyBytes b0) (impl_copyBytes b0) := by
  unfold q_impl_copyBytes impl_copyBytes
  repeat' (first | refine Le'.bind ?_ fun _ => ?_ | refine Le'.cond ?_ ?_ | refine Le'.loop fun _ => ?_ | refine Le'.sum (fun _ => ?_) (fun _ => ?_) _ | exact Le'.refl _)
def q_impl_Tagged (f0 : Frame) (tag1 : Int) : Option Frame :=
  (q_impl_copyBytes f0.2.2.2).bind fun t7 =>
  some (f0.1, f0.2.1, tag1, t7)
theorem q_impl_Tagged_le (f0 : Frame) (tag1 : Int) : Le' (q_impl_Tagged f0 tag1) (impl_Tagged f0 tag1) := by
  unfold q_impl_Tagged impl_Tagged
  repeat' (first | exact q_impl_copyBytes_le _ | refine Le'.bind ?_ fun _ => ?_ | refine Le'.cond ?_ ?_ | refine Le'.loop fun _ => ?_ | refine Le'.sum (fun _ => ?_) (fun _ => ?_) _ | exact Le'.refl _)
def q_impl_ShownTag (v0 : Vtab) (id1 : Int) (port2 : Int) : Option Int :=
  (q_impl_RowAt v0 id1).bind fun t10 =>
  (cond (decide (t10 < 0))
    (some true)
    ((at? v0.1 t10).bind fun x17 =>
    (q_impl_hasPort x17.2.2 port2).bind fun t21 =>
    some t21)).bind fun t22 =>
  cond t22 (some 0) (some id1)
theorem q_impl_ShownTag_le (v0 : Vtab) (id1 : Int) (port2 : Int) : Le' (q_impl_ShownTag v0 id1 port2) (impl_ShownTag v0 id1 port2) := by
  unfold q_impl_ShownTag impl_ShownTag
  repeat' (first | exact q_impl_RowAt_le _ _ | exact q_impl_hasPort_le _ _ | refine Le'.bind ?_ fun _ => ?_ | refine Le'.cond ?_ ?_ | refine Le'.loop fun _ => ?_ | refine Le'.sum (fun _ => ?_) (fun _ => ?_) _ | exact Le'.refl _)
def q_impl_Forward_l0 (p0 : Bridge) (i1 : Int) (a2 : Frame) (t31 : Int) (t38 : Int × Bool) (t74 : Int) (t78 : Int) (t13 : List Out) : Option ((Int × List Out) ⊕ (List Out)) :=
  cond (decide (t78 < (p0.2.2.1.length : Int)))
    ((cond (t78 != i1)
      ((q_impl_EgressOf (p0.2.2.2.2.1, p0.2.2.2.2.2.1) t38.1).bind fun t89 =>
      (q_impl_hasPort (band .i64 t31 t89) t78).bind fun t92 =>
      some t92)
      (some false)).bind fun t93 =>
    (cond t93
      ((cond (decide (t74 < 0)) (some true) (some (t74 == t78))).bind fun t101 =>
      some t101)
      (some false)).bind fun t102 =>
    cond t102
      ((q_impl_ShownTag (p0.2.2.2.2.1, p0.2.2.2.2.2.1) t38.1 t78).bind fun t110 =>
      (q_impl_Tagged a2 t110).bind fun t111 =>
      (app t13 [(t78, t111.1, t111.2.1, t111.2.2.1, t111.2.2.2)]).bind fun zs114 =>
      some (.inl (w64 (t78 + 1), zs114)))
      (some (.inl (w64 (t78 + 1), t13))))
    (some (.inr t13))
theorem q_impl_Forward_l0_le (p0 : Bridge) (i1 : Int) (a2 : Frame) (t31 : Int) (t38 : Int × Bool) (t74 : Int) (t78 : Int) (t13 : List Out) : Le' (q_impl_Forward_l0 p0 i1 a2 t31 t38 t74 t78 t13) (impl_Forward_l0 p0 i1 a2 t31 t38 t74 t78 t13) := by
  unfold q_impl_Forward_l0 impl_Forward_l0
  repeat' (first | exact q_impl_EgressOf_le _ _ | exact q_impl_hasPort_le _ _ | exact q_impl_ShownTag_le _ _ _ | exact q_impl_Tagged_le _ _ | refine Le'.bind ?_ fun _ => ?_ | refine Le'.cond ?_ ?_ | refine Le'.loop fun _ => ?_ | refine Le'.sum (fun _ => ?_) (fun _ => ?_) _ | exact Le'.refl _)
def q_impl_Forward_l0_1 (p0 : Bridge) (i1 : Int) (a2 : Frame) (t31 : Int) (t38 : Int × Bool) (t78_1 : Int) (t13_2 : List Out) : Option ((Int × List Out) ⊕ (List Out)) :=
  cond (decide (t78_1 < (p0.2.2.1.length : Int)))
    ((cond (t78_1 != i1)
      ((q_impl_EgressOf (p0.2.2.2.2.1, p0.2.2.2.2.2.1) t38.1).bind fun t89_1 =>
      (q_impl_hasPort (band .i64 t31 t89_1) t78_1).bind fun t92_1 =>
      some t92_1)
      (some false)).bind fun t93_1 =>
    (cond t93_1
      ((cond (decide ((-1) < 0)) (some true) (some ((-1) == t78_1))).bind fun t101_1 =>
      some t101_1)
      (some false)).bind fun t102_1 =>
    cond t102_1
      ((q_impl_ShownTag (p0.2.2.2.2.1, p0.2.2.2.2.2.1) t38.1 t78_1).bind fun t110_1 =>
      (q_impl_Tagged a2 t110_1).bind fun t111_1 =>
      (app t13_2 [(t78_1, t111_1.1, t111_1.2.1, t111_1.2.2.1, t111_1.2.2.2)]).bind fun zs114_1 =>
      some (.inl (w64 (t78_1 + 1), zs114_1)))
      (some (.inl (w64 (t78_1 + 1), t13_2))))
    (some (.inr t13_2))
theorem q_impl_Forward_l0_1_le (p0 : Bridge) (i1 : Int) (a2 : Frame) (t31 : Int) (t38 : Int × Bool) (t78_1 : Int) (t13_2 : List Out) : Le' (q_impl_Forward_l0_1 p0 i1 a2 t31 t38 t78_1 t13_2) (impl_Forward_l0_1 p0 i1 a2 t31 t38 t78_1 t13_2) := by
  unfold q_impl_Forward_l0_1 impl_Forward_l0_1
  repeat' (first | exact q_impl_EgressOf_le _ _ | exact q_impl_hasPort_le _ _ | exact q_impl_ShownTag_le _ _ _ | exact q_impl_Tagged_le _ _ | refine Le'.bind ?_ fun _ => ?_ | refine Le'.cond ?_ ?_ | refine Le'.loop fun _ => ?_ | refine Le'.sum (fun _ => ?_) (fun _ => ?_) _ | exact Le'.refl _)
def q_impl_Forward (p0 : Bridge) (i1 : Int) (a2 : Frame) : Option (Bridge × List Out) :=
  (q_impl_copyBridge p0).bind fun t16 =>
  (q_impl_isPort p0 i1).bind fun t19 =>
  (cond (!t19)
    (some true)
    ((q_impl_FrameOk a2).bind fun t23 =>
    some (!t23))).bind fun t25 =>
  cond t25
    (some (t16, []))
    ((q_impl_Sends p0.1 p0.2.2.1).bind fun t31 =>
    (q_impl_ClassOf (p0.2.2.2.2.1, p0.2.2.2.2.2.1) i1 a2.2.2.1).bind fun t38 =>
    (q_impl_hasPort t31 i1).bind fun t43 =>
    (cond (!t43) (some true) (some (!t38.2))).bind fun t48 =>
    cond t48
      ((q_impl_more p0.2.2.2.2.2.2.2.2.2.1).bind fun t51 =>
      some ((t16.1, t16.2.1, t16.2.2.1, t16.2.2.2.1, t16.2.2.2.2.1, t16.2.2.2.2.2.1, t16.2.2.2.2.2.2.1, t16.2.2.2.2.2.2.2.1, t16.2.2.2.2.2.2.2.2.1, t51, t16.2.2.2.2.2.2.2.2.2.2), []))
      ((q_impl_Learn p0.2.2.2.1 t38.1 a2.2.1 i1).bind fun t60 =>
      (q_impl_more p0.2.2.2.2.2.2.2.2.2.2).bind fun t64 =>
      cond (a2.1 != 0)
        ((q_impl_LookUp t60 t38.1 a2.1).bind fun t74 =>
        (qloop (fun z => q_impl_Forward_l0 p0 i1 a2 t31 t38 t74 z.1 z.2) (0, [])).bind fun d =>
        some ((t16.1, t16.2.1, t16.2.2.1, t60, t16.2.2.2.2.1, t16.2.2.2.2.2.1, t16.2.2.2.2.2.2.1, t16.2.2.2.2.2.2.2.1, t16.2.2.2.2.2.2.2.2.1, t16.2.2.2.2.2.2.2.2.2.1, t64), d))
        ((qloop (fun z => q_impl_Forward_l0_1 p0 i1 a2 t31 t38 z.1 z.2) (0, [])).bind fun d_1 =>
        some ((t16.1, t16.2.1, t16.2.2.1, t60, t16.2.2.2.2.1, t16.2.2.2.2.2.1, t16.2.2.2.2.2.2.1, t16.2.2.2.2.2.2.2.1, t16.2.2.2.2.2.2.2.2.1, t16.2.2.2.2.2.2.2.2.2.1, t64), d_1))))
theorem q_impl_Forward_le (p0 : Bridge) (i1 : Int) (a2 : Frame) : Le' (q_impl_Forward p0 i1 a2) (impl_Forward p0 i1 a2) := by
  unfold q_impl_Forward impl_Forward
  repeat' (first | exact q_impl_copyBridge_le _ | exact q_impl_isPort_le _ _ | exact q_impl_FrameOk_le _ | exact q_impl_Sends_le _ _ | exact q_impl_ClassOf_le _ _ _ | exact q_impl_hasPort_le _ _ | exact q_impl_more_le _ | exact q_impl_Learn_le _ _ _ _ | exact q_impl_LookUp_le _ _ _ | exact q_impl_Forward_l0_le _ _ _ _ _ _ _ _ | exact q_impl_Forward_l0_1_le _ _ _ _ _ _ _ | refine Le'.bind ?_ fun _ => ?_ | refine Le'.cond ?_ ?_ | refine Le'.loop fun _ => ?_ | refine Le'.sum (fun _ => ?_) (fun _ => ?_) _ | exact Le'.refl _)
def q_laws_FnVlans_l0 (t4 : Int) (b0 : Int) (b1 : List UInt8) (b6 : Int) (b7 : Int) (b8 : Int) (b9 : Int) (b10 : Int) (b2 : List Pt) (b3 : List Fent) (b4 : List Vrow) (b5 : List Int) : Option ((Int × Int × List UInt8 × Int × Int × Int × Int × Int × List Pt × List Fent × List Vrow × List Int) ⊕ (Int × List UInt8 × Int × Int × Int × Int × Int × List Pt × List Fent × List Vrow × List Int)) :=
  cond (decide (t4 < 4))
    ((q_impl_LinkSet (b0, b1, b2, b3, b4, b5, b6, b7, b8, b9, b10) t4 true).bind fun t20 =>
    some (.inl (w64 (t4 + 1), t20.1, t20.2.1, t20.2.2.2.2.2.2.1, t20.2.2.2.2.2.2.2.1, t20.2.2.2.2.2.2.2.2.1, t20.2.2.2.2.2.2.2.2.2.1, t20.2.2.2.2.2.2.2.2.2.2, t20.2.2.1, t20.2.2.2.1, t20.2.2.2.2.1, t20.2.2.2.2.2.1)))
    (some (.inr (b0, b1, b6, b7, b8, b9, b10, b2, b3, b4, b5)))
theorem q_laws_FnVlans_l0_le (t4 : Int) (b0 : Int) (b1 : List UInt8) (b6 : Int) (b7 : Int) (b8 : Int) (b9 : Int) (b10 : Int) (b2 : List Pt) (b3 : List Fent) (b4 : List Vrow) (b5 : List Int) : Le' (q_laws_FnVlans_l0 t4 b0 b1 b6 b7 b8 b9 b10 b2 b3 b4 b5) (laws_FnVlans_l0 t4 b0 b1 b6 b7 b8 b9 b10 b2 b3 b4 b5) := by
  unfold q_laws_FnVlans_l0 laws_FnVlans_l0
  repeat' (first | exact q_impl_LinkSet_le _ _ _ | refine Le'.bind ?_ fun _ => ?_ | refine Le'.cond ?_ ?_ | refine Le'.loop fun _ => ?_ | refine Le'.sum (fun _ => ?_) (fun _ => ?_) _ | exact Le'.refl _)
def q_laws_FnVlans (p0 : List Int) : Option Bool :=
  (q_laws_big p0).bind fun t12 =>
  cond t12
    (some true)
    ((q_impl_BridgeNew 1 4).bind fun t13 =>
    (qloop (fun z => q_laws_FnVlans_l0 z.1 z.2.1 z.2.2.1 z.2.2.2.1 z.2.2.2.2.1 z.2.2.2.2.2.1 z.2.2.2.2.2.2.1 z.2.2.2.2.2.2.2.1 z.2.2.2.2.2.2.2.2.1 z.2.2.2.2.2.2.2.2.2.1 z.2.2.2.2.2.2.2.2.2.2.1 z.2.2.2.2.2.2.2.2.2.2.2) (0, t13.1, t13.2.1, t13.2.2.2.2.2.2.1, t13.2.2.2.2.2.2.2.1, t13.2.2.2.2.2.2.2.2.1, t13.2.2.2.2.2.2.2.2.2.1, t13.2.2.2.2.2.2.2.2.2.2, t13.2.2.1, t13.2.2.2.1, t13.2.2.2.2.1, t13.2.2.2.2.2.1)).bind fun d =>
    (q_laws_number 4).bind fun t24 =>
    (q_laws_number 12).bind fun t27 =>
    (q_laws_number 12).bind fun t30 =>
    (q_laws_number 2).bind fun t33 =>
    (q_laws_number 2).bind fun t36 =>
    (q_laws_number 3).bind fun t39 =>
    (q_laws_number 3).bind fun t42 =>
    (q_impl_SetAll (d.1, d.2.1, d.2.2.2.2.2.2.2.1, d.2.2.2.2.2.2.2.2.1, d.2.2.2.2.2.2.2.2.2.1, d.2.2.2.2.2.2.2.2.2.2, d.2.2.1, d.2.2.2.1, d.2.2.2.2.1, d.2.2.2.2.2.1, d.2.2.2.2.2.2.1) ([(([1, 3, 1, 3, 1, 2] : List Int), t24.1, t24.2.1, t24.2.2.1, t24.2.2.2), (([1, 3, 1, 3, 2, 2] : List Int), t27.1, t27.2.1, t27.2.2.1, t27.2.2.2), (([1, 3, 1, 3, 3, 2] : List Int), t30.1, t30.2.1, t30.2.2.1, t30.2.2.2), (([1, 3, 1, 2, 4, 3] : List Int), t33.1, t33.2.1, t33.2.2.1, t33.2.2.2), (([1, 3, 1, 2, 4, 4] : List Int), t36.1, t36.2.1, t36.2.2.1, t36.2.2.2), (([1, 3, 1, 3, 3, 1] : List Int), t39.1, t39.2.1, t39.2.2.1, t39.2.2.2), (([1, 3, 1, 3, 2, 1] : List Int), t42.1, t42.2.1, t42.2.2.1, t42.2.2.2)])).bind fun t45 =>
    (q_laws_at p0 2).bind fun t50 =>
    (q_laws_at p0 3).bind fun t56 =>
    (q_impl_Forward t45.1 (t50.tmod 4) (w64 ((t56.tmod 2) * 50), 9, 0, [])).bind fun t60 =>
    (cond (t45.2.1 == 0) (some ((d.2.2.2.2.2.2.2.1.length : Int) == 4)) (some false)).bind fun t70 =>
    (cond t70 (some ((t60.2.length : Int) == 1)) (some false)).bind fun t75 =>
    (cond t75
      ((ix t60.2.length 0).bind fun j78 =>
      (t60.2[j78]?).bind fun x80 =>
      some (x80.1 == (bxor .i64 (t50.tmod 4) 1)))
      (some false)).bind fun t84 =>
    (cond t84
      ((ix t60.2.length 0).bind fun j87 =>
      (t60.2[j87]?).bind fun x90 =>
      some (x90.2.2.2.1 == 0))
      (some false)).bind fun t92 =>
    some t92)
theorem q_laws_FnVlans_le (p0 : List Int) : Le' (q_laws_FnVlans p0) (laws_FnVlans p0) := by
  unfold q_laws_FnVlans laws_FnVlans
  repeat' (first | exact q_laws_big_le _ | exact q_impl_BridgeNew_le _ _ | exact q_laws_FnVlans_l0_le _ _ _ _ _ _ _ _ _ _ _ _ | exact q_laws_number_le _ | exact q_impl_SetAll_le _ _ | exact q_laws_at_le _ _ | exact q_impl_Forward_le _ _ _ | refine Le'.bind ?_ fun _ => ?_ | refine Le'.cond ?_ ?_ | refine Le'.loop fun _ => ?_ | refine Le'.sum (fun _ => ?_) (fun _ => ?_) _ | exact Le'.refl _)
end Go.V.W
