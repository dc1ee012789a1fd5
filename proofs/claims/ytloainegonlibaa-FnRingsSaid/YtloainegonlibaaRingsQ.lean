/- The law FnRings: part of the proof that for every input it returns true. No condition. -/
import Derived.Test.YtloainegonlibaaRings
import Derived.Test.YtloainegonlibaaV3
namespace Go.V.W
set_option linter.unusedVariables false
set_option linter.unusedSimpArgs false
def q_laws_big (code0 : List Int) : Option Bool :=
  let t2 := (qlt (1048576) ((code0.length : Int)))
  some t2
theorem q_laws_big_le (code0 : List Int) : Le' (q_laws_big code0) (laws_big code0) := by
  unfold q_laws_big laws_big
  try simp only [qw_eq, qlt_eq, qat_eq, qle_eq]
  repeat' (first | with_reducible refine Le'.bind ?_ fun _ => ?_ | with_reducible refine Le'.cond ?_ ?_ | with_reducible refine Le'.loop fun _ => ?_ | with_reducible refine Le'.sum (fun _ => ?_) (fun _ => ?_) _ | with_reducible exact Le'.refl _)
def q_laws_at (code0 : List Int) (i1 : Int) : Option Int :=
  cond ((qlt (i1) ((code0.length : Int))))
    ((qat code0 i1).bind fun x11 =>
    some (qw (x11)))
    (let t4 := (qw ((qw (i1 * 31)) + (qw ((code0.length : Int) * 7)))).tmod 256
    some t4)
theorem q_laws_at_le (code0 : List Int) (i1 : Int) : Le' (q_laws_at code0 i1) (laws_at code0 i1) := by
  unfold q_laws_at laws_at
  try simp only [qw_eq, qlt_eq, qat_eq, qle_eq]
  repeat' (first | with_reducible refine Le'.bind ?_ fun _ => ?_ | with_reducible refine Le'.cond ?_ ?_ | with_reducible refine Le'.loop fun _ => ?_ | with_reducible refine Le'.sum (fun _ => ?_) (fun _ => ?_) _ | with_reducible exact Le'.refl _)
def q_impl_copyFdb (l0 : List Fent) : Option (List Fent) :=
  (app [] l0).bind fun zs4 =>
  some zs4
theorem q_impl_copyFdb_le (l0 : List Fent) : Le' (q_impl_copyFdb l0) (impl_copyFdb l0) := by
  unfold q_impl_copyFdb impl_copyFdb
  try simp only [qw_eq, qlt_eq, qat_eq, qle_eq]
  repeat' (first | with_reducible refine Le'.bind ?_ fun _ => ?_ | with_reducible refine Le'.cond ?_ ?_ | with_reducible refine Le'.loop fun _ => ?_ | with_reducible refine Le'.sum (fun _ => ?_) (fun _ => ?_) _ | with_reducible exact Le'.refl _)
def q_impl_copyInts (l0 : List Int) : Option (List Int) :=
  (app [] l0).bind fun zs4 =>
  some zs4
theorem q_impl_copyInts_le (l0 : List Int) : Le' (q_impl_copyInts l0) (impl_copyInts l0) := by
  unfold q_impl_copyInts impl_copyInts
  try simp only [qw_eq, qlt_eq, qat_eq, qle_eq]
  repeat' (first | with_reducible refine Le'.bind ?_ fun _ => ?_ | with_reducible refine Le'.cond ?_ ?_ | with_reducible refine Le'.loop fun _ => ?_ | with_reducible refine Le'.sum (fun _ => ?_) (fun _ => ?_) _ | with_reducible exact Le'.refl _)
def q_impl_copyVtab (v0 : Vtab) : Option Vtab :=
  (app [] v0.1).bind fun zs5 =>
  (q_impl_copyInts v0.2).bind fun t8 =>
  some (zs5, t8)
theorem q_impl_copyVtab_le (v0 : Vtab) : Le' (q_impl_copyVtab v0) (impl_copyVtab v0) := by
  unfold q_impl_copyVtab impl_copyVtab
  try simp only [qw_eq, qlt_eq, qat_eq, qle_eq]
  repeat' (first | with_reducible exact q_impl_copyInts_le _ | with_reducible refine Le'.bind ?_ fun _ => ?_ | with_reducible refine Le'.cond ?_ ?_ | with_reducible refine Le'.loop fun _ => ?_ | with_reducible refine Le'.sum (fun _ => ?_) (fun _ => ?_) _ | with_reducible exact Le'.refl _)
def q_impl_copyBridge (b0 : Bridge) : Option Bridge :=
  (app [] b0.2.2.1).bind fun zs5 =>
  (q_impl_copyFdb b0.2.2.2.1).bind fun t9 =>
  (q_impl_copyVtab (b0.2.2.2.2.1, b0.2.2.2.2.2.1)).bind fun t12 =>
  some (b0.1, b0.2.1, zs5, t9, t12.1, t12.2, b0.2.2.2.2.2.2.1, b0.2.2.2.2.2.2.2.1, b0.2.2.2.2.2.2.2.2.1, b0.2.2.2.2.2.2.2.2.2.1, b0.2.2.2.2.2.2.2.2.2.2)
theorem q_impl_copyBridge_le (b0 : Bridge) : Le' (q_impl_copyBridge b0) (impl_copyBridge b0) := by
  unfold q_impl_copyBridge impl_copyBridge
  try simp only [qw_eq, qlt_eq, qat_eq, qle_eq]
  repeat' (first | with_reducible exact q_impl_copyFdb_le _ | with_reducible exact q_impl_copyVtab_le _ | with_reducible refine Le'.bind ?_ fun _ => ?_ | with_reducible refine Le'.cond ?_ ?_ | with_reducible refine Le'.loop fun _ => ?_ | with_reducible refine Le'.sum (fun _ => ?_) (fun _ => ?_) _ | with_reducible exact Le'.refl _)
def q_impl_copyNet_l0 (n0 : Net) (t16 : Int) (b0 : List Bridge) : Option ((Int × List Bridge) ⊕ (List Bridge)) :=
  cond ((qlt (t16) ((n0.1.length : Int))))
    ((qat n0.1 t16).bind fun x18 =>
    (q_impl_copyBridge x18).bind fun t23 =>
    (app b0 [t23]).bind fun zs25 =>
    some (.inl (qw (t16 + 1), zs25)))
    (some (.inr b0))
theorem q_impl_copyNet_l0_le (n0 : Net) (t16 : Int) (b0 : List Bridge) : Le' (q_impl_copyNet_l0 n0 t16 b0) (impl_copyNet_l0 n0 t16 b0) := by
  unfold q_impl_copyNet_l0 impl_copyNet_l0
  try simp only [qw_eq, qlt_eq, qat_eq, qle_eq]
  repeat' (first | with_reducible exact q_impl_copyBridge_le _ | with_reducible refine Le'.bind ?_ fun _ => ?_ | with_reducible refine Le'.cond ?_ ?_ | with_reducible refine Le'.loop fun _ => ?_ | with_reducible refine Le'.sum (fun _ => ?_) (fun _ => ?_) _ | with_reducible exact Le'.refl _)
def q_impl_copyNet (n0 : Net) : Option Net :=
  (app [] n0.2.1).bind fun zs8 =>
  (app [] n0.2.2).bind fun zs11 =>
  (qloop (fun z => q_impl_copyNet_l0 n0 z.1 z.2) (0, [])).bind fun d =>
  some (d, zs8, zs11)
theorem q_impl_copyNet_le (n0 : Net) : Le' (q_impl_copyNet n0) (impl_copyNet n0) := by
  unfold q_impl_copyNet impl_copyNet
  try simp only [qw_eq, qlt_eq, qat_eq, qle_eq]
  repeat' (first | with_reducible exact q_impl_copyNet_l0_le _ _ _ | with_reducible refine Le'.bind ?_ fun _ => ?_ | with_reducible refine Le'.cond ?_ ?_ | with_reducible refine Le'.loop fun _ => ?_ | with_reducible refine Le'.sum (fun _ => ?_) (fun _ => ?_) _ | with_reducible exact Le'.refl _)
def q_impl_in (n0 : Int) (low1 : Int) (high2 : Int) : Option Bool :=
  (cond ((!(qlt (n0) (low1)))) (some ((!(qlt (high2) (n0))))) (some false)).bind fun t14 =>
  some t14
theorem q_impl_in_le (n0 : Int) (low1 : Int) (high2 : Int) : Le' (q_impl_in n0 low1 high2) (impl_in n0 low1 high2) := by
  unfold q_impl_in impl_in
  try simp only [qw_eq, qlt_eq, qat_eq, qle_eq]
  repeat' (first | with_reducible refine Le'.bind ?_ fun _ => ?_ | with_reducible refine Le'.cond ?_ ?_ | with_reducible refine Le'.loop fun _ => ?_ | with_reducible refine Le'.sum (fun _ => ?_) (fun _ => ?_) _ | with_reducible exact Le'.refl _)
def q_impl_portAt (n0 : Net) (b1 : Int) (p2 : Int) : Option (Pt × Bool) :=
  (q_impl_in b1 0 (qw ((n0.1.length : Int) - 1))).bind fun t13 =>
  (cond (!t13)
    (some true)
    ((qat n0.1 b1).bind fun x20 =>
    (q_impl_in p2 0 (qw ((x20.2.2.1.length : Int) - 1))).bind fun t25 =>
    some (!t25))).bind fun t27 =>
  cond t27
    (some ((false, 0, false, 0, 0, 0, 0, 0), false))
    ((qat n0.1 b1).bind fun x32 =>
    (qat x32.2.2.1 p2).bind fun x36 =>
    some (x36, true))
theorem q_impl_portAt_le (n0 : Net) (b1 : Int) (p2 : Int) : Le' (q_impl_portAt n0 b1 p2) (impl_portAt n0 b1 p2) := by
  unfold q_impl_portAt impl_portAt
  try simp only [qw_eq, qlt_eq, qat_eq, qle_eq]
  repeat' (first | with_reducible exact q_impl_in_le _ _ _ | with_reducible refine Le'.bind ?_ fun _ => ?_ | with_reducible refine Le'.cond ?_ ?_ | with_reducible refine Le'.loop fun _ => ?_ | with_reducible refine Le'.sum (fun _ => ?_) (fun _ => ?_) _ | with_reducible exact Le'.refl _)
def q_impl_LinkUp (n0 : Net) (k1 : Int) : Option Bool :=
  (q_impl_in k1 0 (qw ((n0.2.1.length : Int) - 1))).bind fun t14 =>
  cond (!t14)
    (some false)
    ((qat n0.2.1 k1).bind fun x21 =>
    (qat n0.2.1 k1).bind fun x27 =>
    (q_impl_portAt n0 x21.1 x27.2.1).bind fun t30 =>
    (qat n0.2.1 k1).bind fun x38 =>
    (qat n0.2.1 k1).bind fun x44 =>
    (q_impl_portAt n0 x38.2.2.1 x44.2.2.2).bind fun t47 =>
    (cond t30.2 (some t47.2) (some false)).bind fun t53 =>
    (cond t53 (some t30.1.1) (some false)).bind fun t57 =>
    (cond t57 (some t47.1.1) (some false)).bind fun t61 =>
    some t61)
theorem q_impl_LinkUp_le (n0 : Net) (k1 : Int) : Le' (q_impl_LinkUp n0 k1) (impl_LinkUp n0 k1) := by
  unfold q_impl_LinkUp impl_LinkUp
  try simp only [qw_eq, qlt_eq, qat_eq, qle_eq]
  repeat' (first | with_reducible exact q_impl_in_le _ _ _ | with_reducible exact q_impl_portAt_le _ _ _ | with_reducible refine Le'.bind ?_ fun _ => ?_ | with_reducible refine Le'.cond ?_ ?_ | with_reducible refine Le'.loop fun _ => ?_ | with_reducible refine Le'.sum (fun _ => ?_) (fun _ => ?_) _ | with_reducible exact Le'.refl _)
def q_impl_LessVec (a0 : Vec) (b1 : Vec) : Option Bool :=
  cond (a0.1 != b1.1)
    (some ((qlt (a0.1) (b1.1))))
    (cond (a0.2.1 != b1.2.1)
      (some ((qlt (a0.2.1) (b1.2.1))))
      (cond (a0.2.2.2.1 != b1.2.2.2.1)
        (let t4 := (qlt (a0.2.2.2.1) (b1.2.2.2.1))
        some t4)
        (let t4_1 := (qlt (a0.2.2.2.2) (b1.2.2.2.2))
        some t4_1)))
theorem q_impl_LessVec_le (a0 : Vec) (b1 : Vec) : Le' (q_impl_LessVec a0 b1) (impl_LessVec a0 b1) := by
  unfold q_impl_LessVec impl_LessVec
  try simp only [qw_eq, qlt_eq, qat_eq, qle_eq]
  repeat' (first | with_reducible refine Le'.bind ?_ fun _ => ?_ | with_reducible refine Le'.cond ?_ ?_ | with_reducible refine Le'.loop fun _ => ?_ | with_reducible refine Le'.sum (fun _ => ?_) (fun _ => ?_) _ | with_reducible exact Le'.refl _)
def q_impl_VecOk (v0 : Vec) : Option Bool :=
  (q_impl_in v0.1 1 99).bind fun t5 =>
  (cond t5
    ((q_impl_in v0.2.1 0 100000).bind fun t9 =>
    some t9)
    (some false)).bind fun t10 =>
  (cond t10
    ((q_impl_in v0.2.2.1 0 10).bind fun t14 =>
    some t14)
    (some false)).bind fun t15 =>
  (cond t15
    ((q_impl_in v0.2.2.2.1 1 99).bind fun t19 =>
    some t19)
    (some false)).bind fun t20 =>
  (cond t20
    ((q_impl_in v0.2.2.2.2 0 7).bind fun t24 =>
    some t24)
    (some false)).bind fun t25 =>
  some t25
theorem q_impl_VecOk_le (v0 : Vec) : Le' (q_impl_VecOk v0) (impl_VecOk v0) := by
  unfold q_impl_VecOk impl_VecOk
  try simp only [qw_eq, qlt_eq, qat_eq, qle_eq]
  repeat' (first | with_reducible exact q_impl_in_le _ _ _ | with_reducible refine Le'.bind ?_ fun _ => ?_ | with_reducible refine Le'.cond ?_ ?_ | with_reducible refine Le'.loop fun _ => ?_ | with_reducible refine Le'.sum (fun _ => ?_) (fun _ => ?_) _ | with_reducible exact Le'.refl _)
def q_impl_StepVec (v0 : Vec) (cost1 : Int) : Option (Vec × Bool) :=
  (q_impl_VecOk v0).bind fun t8 =>
  (cond (!t8)
    (some true)
    ((q_impl_in cost1 1 1000).bind fun t12 =>
    some (!t12))).bind fun t14 =>
  cond t14
    (some (v0, false))
    ((q_impl_VecOk (v0.1, qw (v0.2.1 + cost1), qw (v0.2.2.1 + 1), v0.2.2.2.1, v0.2.2.2.2)).bind fun t27 =>
    cond (!t27)
      (some (v0, false))
      (some ((v0.1, qw (v0.2.1 + cost1), qw (v0.2.2.1 + 1), v0.2.2.2.1, v0.2.2.2.2), true)))
theorem q_impl_StepVec_le (v0 : Vec) (cost1 : Int) : Le' (q_impl_StepVec v0 cost1) (impl_StepVec v0 cost1) := by
  unfold q_impl_StepVec impl_StepVec
  try simp only [qw_eq, qlt_eq, qat_eq, qle_eq]
  repeat' (first | with_reducible exact q_impl_VecOk_le _ | with_reducible exact q_impl_in_le _ _ _ | with_reducible refine Le'.bind ?_ fun _ => ?_ | with_reducible refine Le'.cond ?_ ?_ | with_reducible refine Le'.loop fun _ => ?_ | with_reducible refine Le'.sum (fun _ => ?_) (fun _ => ?_) _ | with_reducible exact Le'.refl _)
def q_impl_BestVec_l0 (p0 : Int) (i1 : List Pt) (t7 : Int) (t18 : Int) (b0 : Int) (b1 : Int) (b2 : Int) (b3 : Int) (b4 : Int) (b0_1 : Int) (b1_1 : Int) (b2_1 : Int) (b3_1 : Int) (b4_1 : Int) : Option ((Int × Int × Int × Int × Int × Int × Int × Int × Int × Int × Int × Int) ⊕ (Int × Int × Int × Int × Int × Int × Int × Int × Int × Int × Int)) :=
  cond ((qlt (t18) ((i1.length : Int))))
    ((qat i1 t18).bind fun x21 =>
    (cond (!x21.1) (some true) (some (!x21.2.2.1))).bind fun t30 =>
    cond t30
      (some (.inl (t7, qw (t18 + 1), b0, b1, b2, b3, b4, b0_1, b1_1, b2_1, b3_1, b4_1)))
      ((q_impl_StepVec x21.2.2.2 x21.2.1).bind fun t36 =>
      (cond t36.2 (some ((qlt (t36.1.1) (p0)))) (some false)).bind fun t45 =>
      (cond t45
        ((cond ((qlt (t7) (0)))
          (some true)
          ((q_impl_LessVec t36.1 (b0_1, b1_1, b2_1, b3_1, b4_1)).bind fun t52 =>
          some t52)).bind fun t53 =>
        some t53)
        (some false)).bind fun t54 =>
      cond t54
        (some (.inl (t18, qw (t18 + 1), t36.1.1, t36.1.2.1, t36.1.2.2.1, p0, 0, t36.1.1, t36.1.2.1, t36.1.2.2.1, t36.1.2.2.2.1, t36.1.2.2.2.2)))
        (some (.inl (t7, qw (t18 + 1), b0, b1, b2, b3, b4, b0_1, b1_1, b2_1, b3_1, b4_1)))))
    (some (.inr (t7, b0, b1, b2, b3, b4, b0_1, b1_1, b2_1, b3_1, b4_1)))
theorem q_impl_BestVec_l0_le (p0 : Int) (i1 : List Pt) (t7 : Int) (t18 : Int) (b0 : Int) (b1 : Int) (b2 : Int) (b3 : Int) (b4 : Int) (b0_1 : Int) (b1_1 : Int) (b2_1 : Int) (b3_1 : Int) (b4_1 : Int) : Le' (q_impl_BestVec_l0 p0 i1 t7 t18 b0 b1 b2 b3 b4 b0_1 b1_1 b2_1 b3_1 b4_1) (impl_BestVec_l0 p0 i1 t7 t18 b0 b1 b2 b3 b4 b0_1 b1_1 b2_1 b3_1 b4_1) := by
  unfold q_impl_BestVec_l0 impl_BestVec_l0
  try simp only [qw_eq, qlt_eq, qat_eq, qle_eq]
  repeat' (first | with_reducible exact q_impl_StepVec_le _ _ | with_reducible exact q_impl_LessVec_le _ _ | with_reducible refine Le'.bind ?_ fun _ => ?_ | with_reducible refine Le'.cond ?_ ?_ | with_reducible refine Le'.loop fun _ => ?_ | with_reducible refine Le'.sum (fun _ => ?_) (fun _ => ?_) _ | with_reducible exact Le'.refl _)
def q_impl_BestVec (p0 : Int) (i1 : List Pt) : Option (Vec × Int) :=
  (qloop (fun z => q_impl_BestVec_l0 p0 i1 z.1 z.2.1 z.2.2.1 z.2.2.2.1 z.2.2.2.2.1 z.2.2.2.2.2.1 z.2.2.2.2.2.2.1 z.2.2.2.2.2.2.2.1 z.2.2.2.2.2.2.2.2.1 z.2.2.2.2.2.2.2.2.2.1 z.2.2.2.2.2.2.2.2.2.2.1 z.2.2.2.2.2.2.2.2.2.2.2) ((-1), 0, p0, 0, 0, p0, 0, 0, 0, 0, 0, 0)).bind fun d =>
  some ((d.2.1, d.2.2.1, d.2.2.2.1, d.2.2.2.2.1, d.2.2.2.2.2.1), d.1)
theorem q_impl_BestVec_le (p0 : Int) (i1 : List Pt) : Le' (q_impl_BestVec p0 i1) (impl_BestVec p0 i1) := by
  unfold q_impl_BestVec impl_BestVec
  try simp only [qw_eq, qlt_eq, qat_eq, qle_eq]
  repeat' (first | with_reducible exact q_impl_BestVec_l0_le _ _ _ _ _ _ _ _ _ _ _ _ _ _ | with_reducible refine Le'.bind ?_ fun _ => ?_ | with_reducible refine Le'.cond ?_ ?_ | with_reducible refine Le'.loop fun _ => ?_ | with_reducible refine Le'.sum (fun _ => ?_) (fun _ => ?_) _ | with_reducible exact Le'.refl _)
def q_impl_SayVec (id0 : Int) (l1 : List Pt) (port2 : Int) : Option Vec :=
  (q_impl_BestVec id0 l1).bind fun t12 =>
  some (t12.1.1, t12.1.2.1, t12.1.2.2.1, t12.1.2.2.2.1, port2)
theorem q_impl_SayVec_le (id0 : Int) (l1 : List Pt) (port2 : Int) : Le' (q_impl_SayVec id0 l1 port2) (impl_SayVec id0 l1 port2) := by
  unfold q_impl_SayVec impl_SayVec
  try simp only [qw_eq, qlt_eq, qat_eq, qle_eq]
  repeat' (first | with_reducible exact q_impl_BestVec_le _ _ | with_reducible refine Le'.bind ?_ fun _ => ?_ | with_reducible refine Le'.cond ?_ ?_ | with_reducible refine Le'.loop fun _ => ?_ | with_reducible refine Le'.sum (fun _ => ?_) (fun _ => ?_) _ | with_reducible exact Le'.refl _)
def q_impl_said (n0 : Net) (b1 : Int) (p2 : Int) : Option Vec :=
  (qat n0.1 b1).bind fun x10 =>
  (qat n0.1 b1).bind fun x16 =>
  (q_impl_SayVec x10.1 x16.2.2.1 p2).bind fun t20 =>
  some t20
theorem q_impl_said_le (n0 : Net) (b1 : Int) (p2 : Int) : Le' (q_impl_said n0 b1 p2) (impl_said n0 b1 p2) := by
  unfold q_impl_said impl_said
  try simp only [qw_eq, qlt_eq, qat_eq, qle_eq]
  repeat' (first | with_reducible exact q_impl_SayVec_le _ _ _ | with_reducible refine Le'.bind ?_ fun _ => ?_ | with_reducible refine Le'.cond ?_ ?_ | with_reducible refine Le'.loop fun _ => ?_ | with_reducible refine Le'.sum (fun _ => ?_) (fun _ => ?_) _ | with_reducible exact Le'.refl _)
def q_impl_allPorts (ports0 : Int) : Option Int :=
  (shl .i64 1 ports0).bind fun t4 =>
  some (qw (t4 - 1))
theorem q_impl_allPorts_le (ports0 : Int) : Le' (q_impl_allPorts ports0) (impl_allPorts ports0) := by
  unfold q_impl_allPorts impl_allPorts
  try simp only [qw_eq, qlt_eq, qat_eq, qle_eq]
  repeat' (first | with_reducible refine Le'.bind ?_ fun _ => ?_ | with_reducible refine Le'.cond ?_ ?_ | with_reducible refine Le'.loop fun _ => ?_ | with_reducible refine Le'.sum (fun _ => ?_) (fun _ => ?_) _ | with_reducible exact Le'.refl _)
def q_impl_RowAt_l0 (v0 : Vtab) (id1 : Int) (t10 : Int) : Option (Int ⊕ (Unit ⊕ Int)) :=
  cond ((qlt (t10) ((v0.1.length : Int))))
    ((qat v0.1 t10).bind fun x13 =>
    cond (x13.1 == id1) (some (.inr (.inr t10))) (some (.inl (qw (t10 + 1)))))
    (some (.inr (.inl ())))
theorem q_impl_RowAt_l0_le (v0 : Vtab) (id1 : Int) (t10 : Int) : Le' (q_impl_RowAt_l0 v0 id1 t10) (impl_RowAt_l0 v0 id1 t10) := by
  unfold q_impl_RowAt_l0 impl_RowAt_l0
  try simp only [qw_eq, qlt_eq, qat_eq, qle_eq]
  repeat' (first | with_reducible refine Le'.bind ?_ fun _ => ?_ | with_reducible refine Le'.cond ?_ ?_ | with_reducible refine Le'.loop fun _ => ?_ | with_reducible refine Le'.sum (fun _ => ?_) (fun _ => ?_) _ | with_reducible exact Le'.refl _)
def q_impl_RowAt (v0 : Vtab) (id1 : Int) : Option Int :=
  (qloop (fun z => q_impl_RowAt_l0 v0 id1 z) 0).bind (Sum.elim (fun d =>
    some (-1)) (fun r => some r))
theorem q_impl_RowAt_le (v0 : Vtab) (id1 : Int) : Le' (q_impl_RowAt v0 id1) (impl_RowAt v0 id1) := by
  unfold q_impl_RowAt impl_RowAt
  try simp only [qw_eq, qlt_eq, qat_eq, qle_eq]
  repeat' (first | with_reducible exact q_impl_RowAt_l0_le _ _ _ | with_reducible refine Le'.bind ?_ fun _ => ?_ | with_reducible refine Le'.cond ?_ ?_ | with_reducible refine Le'.loop fun _ => ?_ | with_reducible refine Le'.sum (fun _ => ?_) (fun _ => ?_) _ | with_reducible exact Le'.refl _)
def q_impl_VtabOk_l0 (p0 : Vtab) (i1 : Int) (t28 : Int) : Option (Int ⊕ (Unit ⊕ Bool)) :=
  cond ((qlt (t28) ((p0.1.length : Int))))
    ((qat p0.1 t28).bind fun x31 =>
    (q_impl_in x31.1 1 99).bind fun t35 =>
    (cond (!t35)
      (some true)
      ((cond ((qlt (0) (t28)))
        ((qat p0.1 (qw (t28 - 1))).bind fun x45 =>
        some ((!(qlt (x45.1) (x31.1)))))
        (some false)).bind fun t51 =>
      some t51)).bind fun t52 =>
    (cond t52
      (some true)
      ((q_impl_allPorts i1).bind fun t57 =>
      (q_impl_in x31.2.1 0 t57).bind fun t58 =>
      some (!t58))).bind fun t60 =>
    (cond t60 (some true) (some ((bclr .i64 x31.2.2 x31.2.1) != 0))).bind fun t68 =>
    cond t68 (some (.inr (.inr false))) (some (.inl (qw (t28 + 1)))))
    (some (.inr (.inl ())))
theorem q_impl_VtabOk_l0_le (p0 : Vtab) (i1 : Int) (t28 : Int) : Le' (q_impl_VtabOk_l0 p0 i1 t28) (impl_VtabOk_l0 p0 i1 t28) := by
  unfold q_impl_VtabOk_l0 impl_VtabOk_l0
  try simp only [qw_eq, qlt_eq, qat_eq, qle_eq]
  repeat' (first | with_reducible exact q_impl_in_le _ _ _ | with_reducible exact q_impl_allPorts_le _ | with_reducible refine Le'.bind ?_ fun _ => ?_ | with_reducible refine Le'.cond ?_ ?_ | with_reducible refine Le'.loop fun _ => ?_ | with_reducible refine Le'.sum (fun _ => ?_) (fun _ => ?_) _ | with_reducible exact Le'.refl _)
def q_impl_VtabOk_l2 (p0 : Vtab) (t73 : Int) : Option (Int ⊕ (Unit ⊕ Bool)) :=
  cond ((qlt (t73) ((p0.2.length : Int))))
    ((qat p0.2 t73).bind fun x75 =>
    (q_impl_RowAt p0 x75).bind fun t79 =>
    cond ((qlt (t79) (0))) (some (.inr (.inr false))) (some (.inl (qw (t73 + 1)))))
    (some (.inr (.inl ())))
theorem q_impl_VtabOk_l2_le (p0 : Vtab) (t73 : Int) : Le' (q_impl_VtabOk_l2 p0 t73) (impl_VtabOk_l2 p0 t73) := by
  unfold q_impl_VtabOk_l2 impl_VtabOk_l2
  try simp only [qw_eq, qlt_eq, qat_eq, qle_eq]
  repeat' (first | with_reducible exact q_impl_RowAt_le _ _ | with_reducible refine Le'.bind ?_ fun _ => ?_ | with_reducible refine Le'.cond ?_ ?_ | with_reducible refine Le'.loop fun _ => ?_ | with_reducible refine Le'.sum (fun _ => ?_) (fun _ => ?_) _ | with_reducible exact Le'.refl _)
def q_impl_VtabOk (p0 : Vtab) (i1 : Int) : Option Bool :=
  (q_impl_in i1 1 6).bind fun t10 =>
  (cond (!t10) (some true) (some ((p0.2.length : Int) != i1))).bind fun t18 =>
  (cond t18 (some true) (some ((qlt (6) ((p0.1.length : Int)))))).bind fun t24 =>
  cond t24
    (some false)
    ((qloop (fun z => q_impl_VtabOk_l0 p0 i1 z) 0).bind (Sum.elim (fun d =>
      (qloop (fun z => q_impl_VtabOk_l2 p0 z) 0).bind (Sum.elim (fun d_1 =>
        some true) (fun r => some r))) (fun r_1 => some r_1)))
theorem q_impl_VtabOk_le (p0 : Vtab) (i1 : Int) : Le' (q_impl_VtabOk p0 i1) (impl_VtabOk p0 i1) := by
  unfold q_impl_VtabOk impl_VtabOk
  try simp only [qw_eq, qlt_eq, qat_eq, qle_eq]
  repeat' (first | with_reducible exact q_impl_in_le _ _ _ | with_reducible exact q_impl_VtabOk_l0_le _ _ _ | with_reducible exact q_impl_VtabOk_l2_le _ _ | with_reducible refine Le'.bind ?_ fun _ => ?_ | with_reducible refine Le'.cond ?_ ?_ | with_reducible refine Le'.loop fun _ => ?_ | with_reducible refine Le'.sum (fun _ => ?_) (fun _ => ?_) _ | with_reducible exact Le'.refl _)
def q_impl_PtOk (p0 : Pt) : Option Bool :=
  (q_impl_in p0.2.1 1 1000).bind fun t5 =>
  (cond (!t5)
    (some true)
    ((cond p0.2.2.1 (some (!p0.1)) (some false)).bind fun t14 =>
    some t14)).bind fun t15 =>
  cond t15
    (some false)
    (cond p0.2.2.1
      ((q_impl_VecOk p0.2.2.2).bind fun t20 =>
      some t20)
      (let t2 := p0.2.2.2.1 == 0 && (p0.2.2.2.2.1 == 0 && (p0.2.2.2.2.2.1 == 0 && (p0.2.2.2.2.2.2.1 == 0 && (p0.2.2.2.2.2.2.2 == 0))))
      some t2))
theorem q_impl_PtOk_le (p0 : Pt) : Le' (q_impl_PtOk p0) (impl_PtOk p0) := by
  unfold q_impl_PtOk impl_PtOk
  try simp only [qw_eq, qlt_eq, qat_eq, qle_eq]
  repeat' (first | with_reducible exact q_impl_in_le _ _ _ | with_reducible exact q_impl_VecOk_le _ | with_reducible refine Le'.bind ?_ fun _ => ?_ | with_reducible refine Le'.cond ?_ ?_ | with_reducible refine Le'.loop fun _ => ?_ | with_reducible refine Le'.sum (fun _ => ?_) (fun _ => ?_) _ | with_reducible exact Le'.refl _)
def q_impl_fentOk (e0 : Fent) : Option Bool :=
  (q_impl_in e0.1 1 99).bind fun t5 =>
  (cond t5
    ((q_impl_in e0.2.1 1 9999).bind fun t9 =>
    some t9)
    (some false)).bind fun t10 =>
  (cond t10
    ((q_impl_in e0.2.2.1 0 7).bind fun t14 =>
    some t14)
    (some false)).bind fun t15 =>
  (cond t15
    ((q_impl_in e0.2.2.2.1 0 4).bind fun t19 =>
    some t19)
    (some false)).bind fun t20 =>
  (cond t20
    ((cond (!e0.2.2.2.2) (some true) (some (e0.2.2.2.1 == 0))).bind fun t29 =>
    some t29)
    (some false)).bind fun t30 =>
  some t30
theorem q_impl_fentOk_le (e0 : Fent) : Le' (q_impl_fentOk e0) (impl_fentOk e0) := by
  unfold q_impl_fentOk impl_fentOk
  try simp only [qw_eq, qlt_eq, qat_eq, qle_eq]
  repeat' (first | with_reducible exact q_impl_in_le _ _ _ | with_reducible refine Le'.bind ?_ fun _ => ?_ | with_reducible refine Le'.cond ?_ ?_ | with_reducible refine Le'.loop fun _ => ?_ | with_reducible refine Le'.sum (fun _ => ?_) (fun _ => ?_) _ | with_reducible exact Le'.refl _)
def q_impl_behind (e0 : Fent) (tag1 : Int) (mac2 : Int) : Option Bool :=
  (cond ((qlt (tag1) (e0.1)))
    (some true)
    ((cond (e0.1 == tag1) (some ((qlt (mac2) (e0.2.1)))) (some false)).bind fun t21 =>
    some t21)).bind fun t22 =>
  some t22
theorem q_impl_behind_le (e0 : Fent) (tag1 : Int) (mac2 : Int) : Le' (q_impl_behind e0 tag1 mac2) (impl_behind e0 tag1 mac2) := by
  unfold q_impl_behind impl_behind
  try simp only [qw_eq, qlt_eq, qat_eq, qle_eq]
  repeat' (first | with_reducible refine Le'.bind ?_ fun _ => ?_ | with_reducible refine Le'.cond ?_ ?_ | with_reducible refine Le'.loop fun _ => ?_ | with_reducible refine Le'.sum (fun _ => ?_) (fun _ => ?_) _ | with_reducible exact Le'.refl _)
def q_impl_FdbOk_l0 (l0 : List Fent) (t7 : Int) : Option (Int ⊕ (Unit ⊕ Bool)) :=
  cond ((qlt (t7) ((l0.length : Int))))
    ((qat l0 t7).bind fun x10 =>
    (q_impl_fentOk x10).bind fun t13 =>
    (cond (!t13)
      (some true)
      ((cond ((qlt (0) (t7)))
        ((qat l0 (qw (t7 - 1))).bind fun x23 =>
        (qat l0 (qw (t7 - 1))).bind fun x29 =>
        (q_impl_behind x10 x23.1 x29.2.1).bind fun t32 =>
        some (!t32))
        (some false)).bind fun t34 =>
      some t34)).bind fun t35 =>
    cond t35 (some (.inr (.inr false))) (some (.inl (qw (t7 + 1)))))
    (some (.inr (.inl ())))
theorem q_impl_FdbOk_l0_le (l0 : List Fent) (t7 : Int) : Le' (q_impl_FdbOk_l0 l0 t7) (impl_FdbOk_l0 l0 t7) := by
  unfold q_impl_FdbOk_l0 impl_FdbOk_l0
  try simp only [qw_eq, qlt_eq, qat_eq, qle_eq]
  repeat' (first | with_reducible exact q_impl_fentOk_le _ | with_reducible exact q_impl_behind_le _ _ _ | with_reducible refine Le'.bind ?_ fun _ => ?_ | with_reducible refine Le'.cond ?_ ?_ | with_reducible refine Le'.loop fun _ => ?_ | with_reducible refine Le'.sum (fun _ => ?_) (fun _ => ?_) _ | with_reducible exact Le'.refl _)
def q_impl_FdbOk (l0 : List Fent) : Option Bool :=
  (qloop (fun z => q_impl_FdbOk_l0 l0 z) 0).bind (Sum.elim (fun d =>
    let t2 := (!(qlt (12) ((l0.length : Int))))
    some t2) (fun r => some r))
theorem q_impl_FdbOk_le (l0 : List Fent) : Le' (q_impl_FdbOk l0) (impl_FdbOk l0) := by
  unfold q_impl_FdbOk impl_FdbOk
  try simp only [qw_eq, qlt_eq, qat_eq, qle_eq]
  repeat' (first | with_reducible exact q_impl_FdbOk_l0_le _ _ | with_reducible refine Le'.bind ?_ fun _ => ?_ | with_reducible refine Le'.cond ?_ ?_ | with_reducible refine Le'.loop fun _ => ?_ | with_reducible refine Le'.sum (fun _ => ?_) (fun _ => ?_) _ | with_reducible exact Le'.refl _)
def q_impl_isCount (n0 : Int) : Option Bool :=
  (q_impl_in n0 0 1000000).bind fun t4 =>
  some t4
theorem q_impl_isCount_le (n0 : Int) : Le' (q_impl_isCount n0) (impl_isCount n0) := by
  unfold q_impl_isCount impl_isCount
  try simp only [qw_eq, qlt_eq, qat_eq, qle_eq]
  repeat' (first | with_reducible exact q_impl_in_le _ _ _ | with_reducible refine Le'.bind ?_ fun _ => ?_ | with_reducible refine Le'.cond ?_ ?_ | with_reducible refine Le'.loop fun _ => ?_ | with_reducible refine Le'.sum (fun _ => ?_) (fun _ => ?_) _ | with_reducible exact Le'.refl _)
def q_impl_BridgeOk_l0 (p0 : Bridge) (t8 : Int) : Option (Int ⊕ (Unit ⊕ Bool)) :=
  cond ((qlt (t8) ((p0.2.2.1.length : Int))))
    ((qat p0.2.2.1 t8).bind fun x10 =>
    (q_impl_PtOk x10).bind fun t13 =>
    cond (!t13) (some (.inr (.inr false))) (some (.inl (qw (t8 + 1)))))
    (some (.inr (.inl ())))
theorem q_impl_BridgeOk_l0_le (p0 : Bridge) (t8 : Int) : Le' (q_impl_BridgeOk_l0 p0 t8) (impl_BridgeOk_l0 p0 t8) := by
  unfold q_impl_BridgeOk_l0 impl_BridgeOk_l0
  try simp only [qw_eq, qlt_eq, qat_eq, qle_eq]
  repeat' (first | with_reducible exact q_impl_PtOk_le _ | with_reducible refine Le'.bind ?_ fun _ => ?_ | with_reducible refine Le'.cond ?_ ?_ | with_reducible refine Le'.loop fun _ => ?_ | with_reducible refine Le'.sum (fun _ => ?_) (fun _ => ?_) _ | with_reducible exact Le'.refl _)
def q_impl_BridgeOk (p0 : Bridge) : Option Bool :=
  (qloop (fun z => q_impl_BridgeOk_l0 p0 z) 0).bind (Sum.elim (fun d =>
    (q_impl_in p0.1 1 99).bind fun t18 =>
    (cond (!t18) (some true) (some ((qlt (10) ((p0.2.1.length : Int)))))).bind fun t25 =>
    (cond t25
      (some true)
      ((q_impl_in (p0.2.2.1.length : Int) 1 6).bind fun t30 =>
      some (!t30))).bind fun t32 =>
    (cond t32
      (some true)
      ((q_impl_FdbOk p0.2.2.2.1).bind fun t36 =>
      some (!t36))).bind fun t38 =>
    (cond t38
      (some true)
      ((q_impl_VtabOk (p0.2.2.2.2.1, p0.2.2.2.2.2.1) (p0.2.2.1.length : Int)).bind fun t45 =>
      some (!t45))).bind fun t47 =>
    cond t47
      (some false)
      ((q_impl_isCount p0.2.2.2.2.2.2.1).bind fun t50 =>
      (cond t50
        ((q_impl_isCount p0.2.2.2.2.2.2.2.1).bind fun t54 =>
        some t54)
        (some false)).bind fun t55 =>
      (cond t55
        ((q_impl_isCount p0.2.2.2.2.2.2.2.2.1).bind fun t59 =>
        some t59)
        (some false)).bind fun t60 =>
      (cond t60
        ((q_impl_isCount p0.2.2.2.2.2.2.2.2.2.1).bind fun t64 =>
        some t64)
        (some false)).bind fun t65 =>
      (cond t65
        ((q_impl_isCount p0.2.2.2.2.2.2.2.2.2.2).bind fun t69 =>
        some t69)
        (some false)).bind fun t70 =>
      some t70)) (fun r => some r))
theorem q_impl_BridgeOk_le (p0 : Bridge) : Le' (q_impl_BridgeOk p0) (impl_BridgeOk p0) := by
  unfold q_impl_BridgeOk impl_BridgeOk
  try simp only [qw_eq, qlt_eq, qat_eq, qle_eq]
  repeat' (first | with_reducible exact q_impl_BridgeOk_l0_le _ _ | with_reducible exact q_impl_in_le _ _ _ | with_reducible exact q_impl_FdbOk_le _ | with_reducible exact q_impl_VtabOk_le _ _ | with_reducible exact q_impl_isCount_le _ | with_reducible refine Le'.bind ?_ fun _ => ?_ | with_reducible refine Le'.cond ?_ ?_ | with_reducible refine Le'.loop fun _ => ?_ | with_reducible refine Le'.sum (fun _ => ?_) (fun _ => ?_) _ | with_reducible exact Le'.refl _)
def q_impl_ends_l0 (l0 : List Link) (b1 : Int) (p2 : Int) (t11 : Int) : Option (Int ⊕ (Unit ⊕ Bool)) :=
  cond ((qlt (t11) ((l0.length : Int))))
    ((qat l0 t11).bind fun x13 =>
    (cond (x13.1 == b1) (some (x13.2.1 == p2)) (some false)).bind fun t24 =>
    (cond t24
      (some true)
      ((cond (x13.2.2.1 == b1) (some (x13.2.2.2 == p2)) (some false)).bind fun t35 =>
      some t35)).bind fun t36 =>
    cond t36 (some (.inr (.inr true))) (some (.inl (qw (t11 + 1)))))
    (some (.inr (.inl ())))
theorem q_impl_ends_l0_le (l0 : List Link) (b1 : Int) (p2 : Int) (t11 : Int) : Le' (q_impl_ends_l0 l0 b1 p2 t11) (impl_ends_l0 l0 b1 p2 t11) := by
  unfold q_impl_ends_l0 impl_ends_l0
  try simp only [qw_eq, qlt_eq, qat_eq, qle_eq]
  repeat' (first | with_reducible refine Le'.bind ?_ fun _ => ?_ | with_reducible refine Le'.cond ?_ ?_ | with_reducible refine Le'.loop fun _ => ?_ | with_reducible refine Le'.sum (fun _ => ?_) (fun _ => ?_) _ | with_reducible exact Le'.refl _)
def q_impl_ends (l0 : List Link) (b1 : Int) (p2 : Int) : Option Bool :=
  (qloop (fun z => q_impl_ends_l0 l0 b1 p2 z) 0).bind (Sum.elim (fun d =>
    some false) (fun r => some r))
theorem q_impl_ends_le (l0 : List Link) (b1 : Int) (p2 : Int) : Le' (q_impl_ends l0 b1 p2) (impl_ends l0 b1 p2) := by
  unfold q_impl_ends impl_ends
  try simp only [qw_eq, qlt_eq, qat_eq, qle_eq]
  repeat' (first | with_reducible exact q_impl_ends_l0_le _ _ _ _ | with_reducible refine Le'.bind ?_ fun _ => ?_ | with_reducible refine Le'.cond ?_ ?_ | with_reducible refine Le'.loop fun _ => ?_ | with_reducible refine Le'.sum (fun _ => ?_) (fun _ => ?_) _ | with_reducible exact Le'.refl _)
def q_impl_linksOk_l0 (p0 : Net) (t12 : Int) : Option (Int ⊕ (Unit ⊕ Bool)) :=
  cond ((qlt (t12) ((p0.2.1.length : Int))))
    ((qat p0.2.1 t12).bind fun x15 =>
    (q_impl_portAt p0 x15.1 x15.2.1).bind fun t23 =>
    (q_impl_portAt p0 x15.2.2.1 x15.2.2.2).bind fun t32 =>
    (cond ((!(qlt (t12) (9)))) (some true) (some (!t23.2))).bind fun t40 =>
    (cond t40 (some true) (some (!t32.2))).bind fun t44 =>
    (cond t44 (some true) (some (x15.1 == x15.2.2.1))).bind fun t51 =>
    (cond t51 (some true) (some (!(t23.1.1 == t32.1.1)))).bind fun t58 =>
    cond t58
      (some (.inr (.inr false)))
      ((cut p0.2.1 0 t12).bind fun t62 =>
      (q_impl_ends t62 x15.1 x15.2.1).bind fun t67 =>
      (cond t67
        (some true)
        ((cut p0.2.1 0 t12).bind fun t72 =>
        (q_impl_ends t72 x15.2.2.1 x15.2.2.2).bind fun t77 =>
        some t77)).bind fun t78 =>
      cond t78 (some (.inr (.inr false))) (some (.inl (qw (t12 + 1))))))
    (some (.inr (.inl ())))
theorem q_impl_linksOk_l0_le (p0 : Net) (t12 : Int) : Le' (q_impl_linksOk_l0 p0 t12) (impl_linksOk_l0 p0 t12) := by
  unfold q_impl_linksOk_l0 impl_linksOk_l0
  try simp only [qw_eq, qlt_eq, qat_eq, qle_eq]
  repeat' (first | with_reducible exact q_impl_portAt_le _ _ _ | with_reducible exact q_impl_ends_le _ _ _ | with_reducible refine Le'.bind ?_ fun _ => ?_ | with_reducible refine Le'.cond ?_ ?_ | with_reducible refine Le'.loop fun _ => ?_ | with_reducible refine Le'.sum (fun _ => ?_) (fun _ => ?_) _ | with_reducible exact Le'.refl _)
def q_impl_linksOk (p0 : Net) : Option Bool :=
  (qloop (fun z => q_impl_linksOk_l0 p0 z) 0).bind (Sum.elim (fun d =>
    some true) (fun r => some r))
theorem q_impl_linksOk_le (p0 : Net) : Le' (q_impl_linksOk p0) (impl_linksOk p0) := by
  unfold q_impl_linksOk impl_linksOk
  try simp only [qw_eq, qlt_eq, qat_eq, qle_eq]
  repeat' (first | with_reducible exact q_impl_linksOk_l0_le _ _ | with_reducible refine Le'.bind ?_ fun _ => ?_ | with_reducible refine Le'.cond ?_ ?_ | with_reducible refine Le'.loop fun _ => ?_ | with_reducible refine Le'.sum (fun _ => ?_) (fun _ => ?_) _ | with_reducible exact Le'.refl _)
def q_impl_NetOk_l2 (x28 : Bridge) (t36 : List Bridge) (t38 : Int) : Option (Int ⊕ (Unit ⊕ Bool)) :=
  cond ((qlt (t38) ((t36.length : Int))))
    ((qat t36 t38).bind fun x40 =>
    cond (x40.1 == x28.1) (some (.inr (.inr false))) (some (.inl (qw (t38 + 1)))))
    (some (.inr (.inl ())))
theorem q_impl_NetOk_l2_le (x28 : Bridge) (t36 : List Bridge) (t38 : Int) : Le' (q_impl_NetOk_l2 x28 t36 t38) (impl_NetOk_l2 x28 t36 t38) := by
  unfold q_impl_NetOk_l2 impl_NetOk_l2
  try simp only [qw_eq, qlt_eq, qat_eq, qle_eq]
  repeat' (first | with_reducible refine Le'.bind ?_ fun _ => ?_ | with_reducible refine Le'.cond ?_ ?_ | with_reducible refine Le'.loop fun _ => ?_ | with_reducible refine Le'.sum (fun _ => ?_) (fun _ => ?_) _ | with_reducible exact Le'.refl _)
def q_impl_NetOk_l4 (p0 : Net) (t25 : Int) (x28 : Bridge) (t51 : Int) : Option (Int ⊕ (Unit ⊕ Bool)) :=
  cond ((qlt (t51) ((x28.2.2.1.length : Int))))
    ((qat x28.2.2.1 t51).bind fun x54 =>
    (cond x54.2.2.1
      ((q_impl_ends p0.2.1 t25 t51).bind fun t63 =>
      some (!t63))
      (some false)).bind fun t65 =>
    cond t65 (some (.inr (.inr false))) (some (.inl (qw (t51 + 1)))))
    (some (.inr (.inl ())))
theorem q_impl_NetOk_l4_le (p0 : Net) (t25 : Int) (x28 : Bridge) (t51 : Int) : Le' (q_impl_NetOk_l4 p0 t25 x28 t51) (impl_NetOk_l4 p0 t25 x28 t51) := by
  unfold q_impl_NetOk_l4 impl_NetOk_l4
  try simp only [qw_eq, qlt_eq, qat_eq, qle_eq]
  repeat' (first | with_reducible exact q_impl_ends_le _ _ _ | with_reducible refine Le'.bind ?_ fun _ => ?_ | with_reducible refine Le'.cond ?_ ?_ | with_reducible refine Le'.loop fun _ => ?_ | with_reducible refine Le'.sum (fun _ => ?_) (fun _ => ?_) _ | with_reducible exact Le'.refl _)
def q_impl_NetOk_l0 (p0 : Net) (t25 : Int) : Option (Int ⊕ (Unit ⊕ Bool)) :=
  cond ((qlt (t25) ((p0.1.length : Int))))
    ((qat p0.1 t25).bind fun x28 =>
    (q_impl_BridgeOk x28).bind fun t31 =>
    cond (!t31)
      (some (.inr (.inr false)))
      ((cut p0.1 0 t25).bind fun t36 =>
      (qloop (fun z => q_impl_NetOk_l2 x28 t36 z) 0).bind (Sum.elim (fun d =>
        (qloop (fun z => q_impl_NetOk_l4 p0 t25 x28 z) 0).bind (Sum.elim (fun d_1 =>
          some (.inl (qw (t25 + 1)))) (fun r => some (.inr (.inr r))))) (fun r_1 => some (.inr (.inr r_1))))))
    (some (.inr (.inl ())))
theorem q_impl_NetOk_l0_le (p0 : Net) (t25 : Int) : Le' (q_impl_NetOk_l0 p0 t25) (impl_NetOk_l0 p0 t25) := by
  unfold q_impl_NetOk_l0 impl_NetOk_l0
  try simp only [qw_eq, qlt_eq, qat_eq, qle_eq]
  repeat' (first | with_reducible exact q_impl_BridgeOk_le _ | with_reducible exact q_impl_NetOk_l2_le _ _ _ | with_reducible exact q_impl_NetOk_l4_le _ _ _ _ | with_reducible refine Le'.bind ?_ fun _ => ?_ | with_reducible refine Le'.cond ?_ ?_ | with_reducible refine Le'.loop fun _ => ?_ | with_reducible refine Le'.sum (fun _ => ?_) (fun _ => ?_) _ | with_reducible exact Le'.refl _)
def q_impl_NetOk_l6 (p0 : Net) (t71 : Int) : Option (Int ⊕ (Unit ⊕ Bool)) :=
  cond ((qlt (t71) ((p0.2.2.length : Int))))
    ((qat p0.2.2 t71).bind fun x73 =>
    (q_impl_in x73.1 0 (qw ((p0.2.1.length : Int) - 1))).bind fun t81 =>
    (cond (!t81)
      (some true)
      ((q_impl_VecOk x73.2.2).bind fun t86 =>
      some (!t86))).bind fun t88 =>
    cond t88 (some (.inr (.inr false))) (some (.inl (qw (t71 + 1)))))
    (some (.inr (.inl ())))
theorem q_impl_NetOk_l6_le (p0 : Net) (t71 : Int) : Le' (q_impl_NetOk_l6 p0 t71) (impl_NetOk_l6 p0 t71) := by
  unfold q_impl_NetOk_l6 impl_NetOk_l6
  try simp only [qw_eq, qlt_eq, qat_eq, qle_eq]
  repeat' (first | with_reducible exact q_impl_in_le _ _ _ | with_reducible exact q_impl_VecOk_le _ | with_reducible refine Le'.bind ?_ fun _ => ?_ | with_reducible refine Le'.cond ?_ ?_ | with_reducible refine Le'.loop fun _ => ?_ | with_reducible refine Le'.sum (fun _ => ?_) (fun _ => ?_) _ | with_reducible exact Le'.refl _)
def q_impl_NetOk (p0 : Net) : Option Bool :=
  (q_impl_in (p0.1.length : Int) 1 6).bind fun t14 =>
  (cond (!t14) (some true) (some ((qlt (40) ((p0.2.2.length : Int)))))).bind fun t21 =>
  cond t21
    (some false)
    ((qloop (fun z => q_impl_NetOk_l0 p0 z) 0).bind (Sum.elim (fun d_2 =>
      (qloop (fun z => q_impl_NetOk_l6 p0 z) 0).bind (Sum.elim (fun d_3 =>
        (q_impl_linksOk p0).bind fun t91 =>
        some t91) (fun r_2 => some r_2))) (fun r_3 => some r_3)))
theorem q_impl_NetOk_le (p0 : Net) : Le' (q_impl_NetOk p0) (impl_NetOk p0) := by
  unfold q_impl_NetOk impl_NetOk
  try simp only [qw_eq, qlt_eq, qat_eq, qle_eq]
  repeat' (first | with_reducible exact q_impl_in_le _ _ _ | with_reducible exact q_impl_NetOk_l0_le _ _ | with_reducible exact q_impl_NetOk_l6_le _ _ | with_reducible exact q_impl_linksOk_le _ | with_reducible refine Le'.bind ?_ fun _ => ?_ | with_reducible refine Le'.cond ?_ ?_ | with_reducible refine Le'.loop fun _ => ?_ | with_reducible refine Le'.sum (fun _ => ?_) (fun _ => ?_) _ | with_reducible exact Le'.refl _)
def q_impl_isPort (b0 : Bridge) (port1 : Int) : Option Bool :=
  (q_impl_BridgeOk b0).bind fun t6 =>
  (cond t6
    ((q_impl_in port1 0 (qw ((b0.2.2.1.length : Int) - 1))).bind fun t13 =>
    some t13)
    (some false)).bind fun t14 =>
  some t14
theorem q_impl_isPort_le (b0 : Bridge) (port1 : Int) : Le' (q_impl_isPort b0 port1) (impl_isPort b0 port1) := by
  unfold q_impl_isPort impl_isPort
  try simp only [qw_eq, qlt_eq, qat_eq, qle_eq]
  repeat' (first | with_reducible exact q_impl_BridgeOk_le _ | with_reducible exact q_impl_in_le _ _ _ | with_reducible refine Le'.bind ?_ fun _ => ?_ | with_reducible refine Le'.cond ?_ ?_ | with_reducible refine Le'.loop fun _ => ?_ | with_reducible refine Le'.sum (fun _ => ?_) (fun _ => ?_) _ | with_reducible exact Le'.refl _)
def q_impl_RoleOf (id0 : Int) (l1 : List Pt) (port2 : Int) : Option Int :=
  (q_impl_in port2 0 (qw ((l1.length : Int) - 1))).bind fun t13 =>
  (cond (!t13)
    (some true)
    ((qat l1 port2).bind fun x18 =>
    some (!x18.1))).bind fun t22 =>
  cond t22
    (some 4)
    ((q_impl_BestVec id0 l1).bind fun t26 =>
    cond (t26.2 == port2)
      (some 1)
      ((qat l1 port2).bind fun x36 =>
      (cond (!x36.2.2.1)
        (some true)
        ((q_impl_SayVec id0 l1 port2).bind fun t44 =>
        (qat l1 port2).bind fun x47 =>
        (q_impl_LessVec t44 x47.2.2.2).bind fun t50 =>
        some t50)).bind fun t51 =>
      cond t51 (some 2) (some 3)))
theorem q_impl_RoleOf_le (id0 : Int) (l1 : List Pt) (port2 : Int) : Le' (q_impl_RoleOf id0 l1 port2) (impl_RoleOf id0 l1 port2) := by
  unfold q_impl_RoleOf impl_RoleOf
  try simp only [qw_eq, qlt_eq, qat_eq, qle_eq]
  repeat' (first | with_reducible exact q_impl_in_le _ _ _ | with_reducible exact q_impl_BestVec_le _ _ | with_reducible exact q_impl_SayVec_le _ _ _ | with_reducible exact q_impl_LessVec_le _ _ | with_reducible refine Le'.bind ?_ fun _ => ?_ | with_reducible refine Le'.cond ?_ ?_ | with_reducible refine Le'.loop fun _ => ?_ | with_reducible refine Le'.sum (fun _ => ?_) (fun _ => ?_) _ | with_reducible exact Le'.refl _)
def q_impl_Sends_l0 (id0 : Int) (l1 : List Pt) (bits5 : Int) (port6 : Int) : Option ((Int × Int) ⊕ Int) :=
  (cond ((qlt (port6) ((l1.length : Int)))) (some ((qlt (port6) (6)))) (some false)).bind fun t15 =>
  cond t15
    ((q_impl_RoleOf id0 l1 port6).bind fun t21 =>
    (cond (t21 == 1) (some true) (some (t21 == 2))).bind fun t27 =>
    cond t27
      ((shl .i64 1 port6).bind fun t30 =>
      some (.inl (bor .i64 bits5 t30, qw (port6 + 1))))
      (some (.inl (bits5, qw (port6 + 1)))))
    (some (.inr bits5))
theorem q_impl_Sends_l0_le (id0 : Int) (l1 : List Pt) (bits5 : Int) (port6 : Int) : Le' (q_impl_Sends_l0 id0 l1 bits5 port6) (impl_Sends_l0 id0 l1 bits5 port6) := by
  unfold q_impl_Sends_l0 impl_Sends_l0
  try simp only [qw_eq, qlt_eq, qat_eq, qle_eq]
  repeat' (first | with_reducible exact q_impl_RoleOf_le _ _ _ | with_reducible refine Le'.bind ?_ fun _ => ?_ | with_reducible refine Le'.cond ?_ ?_ | with_reducible refine Le'.loop fun _ => ?_ | with_reducible refine Le'.sum (fun _ => ?_) (fun _ => ?_) _ | with_reducible exact Le'.refl _)
def q_impl_Sends (id0 : Int) (l1 : List Pt) : Option Int :=
  (qloop (fun z => q_impl_Sends_l0 id0 l1 z.1 z.2) (0, 0)).bind fun d =>
  some d
theorem q_impl_Sends_le (id0 : Int) (l1 : List Pt) : Le' (q_impl_Sends id0 l1) (impl_Sends id0 l1) := by
  unfold q_impl_Sends impl_Sends
  try simp only [qw_eq, qlt_eq, qat_eq, qle_eq]
  repeat' (first | with_reducible exact q_impl_Sends_l0_le _ _ _ _ | with_reducible refine Le'.bind ?_ fun _ => ?_ | with_reducible refine Le'.cond ?_ ?_ | with_reducible refine Le'.loop fun _ => ?_ | with_reducible refine Le'.sum (fun _ => ?_) (fun _ => ?_) _ | with_reducible exact Le'.refl _)
def q_impl_hasPort (bits0 : Int) (port1 : Int) : Option Bool :=
  (q_impl_in port1 0 62).bind fun t6 =>
  (cond t6
    ((shr .i64 bits0 port1).bind fun t10 =>
    some ((band .i64 t10 1) == 1))
    (some false)).bind fun t13 =>
  some t13
theorem q_impl_hasPort_le (bits0 : Int) (port1 : Int) : Le' (q_impl_hasPort bits0 port1) (impl_hasPort bits0 port1) := by
  unfold q_impl_hasPort impl_hasPort
  try simp only [qw_eq, qlt_eq, qat_eq, qle_eq]
  repeat' (first | with_reducible exact q_impl_in_le _ _ _ | with_reducible refine Le'.bind ?_ fun _ => ?_ | with_reducible refine Le'.cond ?_ ?_ | with_reducible refine Le'.loop fun _ => ?_ | with_reducible refine Le'.sum (fun _ => ?_) (fun _ => ?_) _ | with_reducible exact Le'.refl _)
def q_impl_more (n0 : Int) : Option Int :=
  let t2 := min2 (qw (n0 + 1)) 1000000
  some t2
theorem q_impl_more_le (n0 : Int) : Le' (q_impl_more n0) (impl_more n0) := by
  unfold q_impl_more impl_more
  try simp only [qw_eq, qlt_eq, qat_eq, qle_eq]
  repeat' (first | with_reducible refine Le'.bind ?_ fun _ => ?_ | with_reducible refine Le'.cond ?_ ?_ | with_reducible refine Le'.loop fun _ => ?_ | with_reducible refine Le'.sum (fun _ => ?_) (fun _ => ?_) _ | with_reducible exact Le'.refl _)
def q_impl_FlushPort_l0 (l0 : List Fent) (port1 : Int) (t10 : Int) (out5 : List Fent) : Option ((Int × List Fent) ⊕ (List Fent)) :=
  cond ((qlt (t10) ((l0.length : Int))))
    ((qat l0 t10).bind fun x12 =>
    (cond x12.2.2.2.2 (some true) (some (x12.2.2.1 != port1))).bind fun t21 =>
    cond t21
      ((app out5 [x12]).bind fun zs25 =>
      some (.inl (qw (t10 + 1), zs25)))
      (some (.inl (qw (t10 + 1), out5))))
    (some (.inr out5))
theorem q_impl_FlushPort_l0_le (l0 : List Fent) (port1 : Int) (t10 : Int) (out5 : List Fent) : Le' (q_impl_FlushPort_l0 l0 port1 t10 out5) (impl_FlushPort_l0 l0 port1 t10 out5) := by
  unfold q_impl_FlushPort_l0 impl_FlushPort_l0
  try simp only [qw_eq, qlt_eq, qat_eq, qle_eq]
  repeat' (first | with_reducible refine Le'.bind ?_ fun _ => ?_ | with_reducible refine Le'.cond ?_ ?_ | with_reducible refine Le'.loop fun _ => ?_ | with_reducible refine Le'.sum (fun _ => ?_) (fun _ => ?_) _ | with_reducible exact Le'.refl _)
def q_impl_FlushPort (l0 : List Fent) (port1 : Int) : Option (List Fent) :=
  (qloop (fun z => q_impl_FlushPort_l0 l0 port1 z.1 z.2) (0, [])).bind fun d =>
  some d
theorem q_impl_FlushPort_le (l0 : List Fent) (port1 : Int) : Le' (q_impl_FlushPort l0 port1) (impl_FlushPort l0 port1) := by
  unfold q_impl_FlushPort impl_FlushPort
  try simp only [qw_eq, qlt_eq, qat_eq, qle_eq]
  repeat' (first | with_reducible exact q_impl_FlushPort_l0_le _ _ _ _ | with_reducible refine Le'.bind ?_ fun _ => ?_ | with_reducible refine Le'.cond ?_ ?_ | with_reducible refine Le'.loop fun _ => ?_ | with_reducible refine Le'.sum (fun _ => ?_) (fun _ => ?_) _ | with_reducible exact Le'.refl _)
def q_impl_Bridge_turn_l0 (b0 : Bridge) (t20 : Int) (t26 : Int) (b0_1 : Int) (b1 : List UInt8) (b6 : Int) (b7 : Int) (b8 : Int) (b9 : Int) (b10 : Int) (b3 : List Fent) : Option ((Int × Int × List UInt8 × Int × Int × Int × Int × Int × List Fent) ⊕ (Int × List UInt8 × Int × Int × Int × Int × Int × List Fent)) :=
  cond ((qlt (t26) ((b0.2.2.1.length : Int))))
    ((q_impl_hasPort t20 t26).bind fun t31 =>
    cond (!t31)
      ((q_impl_FlushPort b3 t26).bind fun t39 =>
      some (.inl (qw (t26 + 1), b0_1, b1, b6, b7, b8, b9, b10, t39)))
      (some (.inl (qw (t26 + 1), b0_1, b1, b6, b7, b8, b9, b10, b3))))
    (some (.inr (b0_1, b1, b6, b7, b8, b9, b10, b3)))
theorem q_impl_Bridge_turn_l0_le (b0 : Bridge) (t20 : Int) (t26 : Int) (b0_1 : Int) (b1 : List UInt8) (b6 : Int) (b7 : Int) (b8 : Int) (b9 : Int) (b10 : Int) (b3 : List Fent) : Le' (q_impl_Bridge_turn_l0 b0 t20 t26 b0_1 b1 b6 b7 b8 b9 b10 b3) (impl_Bridge_turn_l0 b0 t20 t26 b0_1 b1 b6 b7 b8 b9 b10 b3) := by
  unfold q_impl_Bridge_turn_l0 impl_Bridge_turn_l0
  try simp only [qw_eq, qlt_eq, qat_eq, qle_eq]
  repeat' (first | with_reducible exact q_impl_hasPort_le _ _ | with_reducible exact q_impl_FlushPort_le _ _ | with_reducible refine Le'.bind ?_ fun _ => ?_ | with_reducible refine Le'.cond ?_ ?_ | with_reducible refine Le'.loop fun _ => ?_ | with_reducible refine Le'.sum (fun _ => ?_) (fun _ => ?_) _ | with_reducible exact Le'.refl _)
def q_impl_Bridge_turn (b0 : Bridge) : Option Bridge :=
  (q_impl_more b0.2.2.2.2.2.2.2.2.2.2).bind fun t9 =>
  (q_impl_Sends b0.1 b0.2.2.1).bind fun t20 =>
  (qloop (fun z => q_impl_Bridge_turn_l0 b0 t20 z.1 z.2.1 z.2.2.1 z.2.2.2.1 z.2.2.2.2.1 z.2.2.2.2.2.1 z.2.2.2.2.2.2.1 z.2.2.2.2.2.2.2.1 z.2.2.2.2.2.2.2.2) (0, b0.1, b0.2.1, b0.2.2.2.2.2.2.1, b0.2.2.2.2.2.2.2.1, b0.2.2.2.2.2.2.2.2.1, b0.2.2.2.2.2.2.2.2.2.1, t9, b0.2.2.2.1)).bind fun d =>
  some (d.1, d.2.1, b0.2.2.1, d.2.2.2.2.2.2.2, b0.2.2.2.2.1, b0.2.2.2.2.2.1, d.2.2.1, d.2.2.2.1, d.2.2.2.2.1, d.2.2.2.2.2.1, d.2.2.2.2.2.2.1)
theorem q_impl_Bridge_turn_le (b0 : Bridge) : Le' (q_impl_Bridge_turn b0) (impl_Bridge_turn b0) := by
  unfold q_impl_Bridge_turn impl_Bridge_turn
  try simp only [qw_eq, qlt_eq, qat_eq, qle_eq]
  repeat' (first | with_reducible exact q_impl_more_le _ | with_reducible exact q_impl_Sends_le _ _ | with_reducible exact q_impl_Bridge_turn_l0_le _ _ _ _ _ _ _ _ _ _ _ | with_reducible refine Le'.bind ?_ fun _ => ?_ | with_reducible refine Le'.cond ?_ ?_ | with_reducible refine Le'.loop fun _ => ?_ | with_reducible refine Le'.sum (fun _ => ?_) (fun _ => ?_) _ | with_reducible exact Le'.refl _)
def q_impl_HearVec (b0 : Bridge) (port1 : Int) (v2 : Vec) : Option Bridge :=
  (q_impl_copyBridge b0).bind fun t9 =>
  (q_impl_isPort b0 port1).bind fun t12 =>
  (cond t12
    ((qat b0.2.2.1 port1).bind fun x17 =>
    some x17.1)
    (some false)).bind fun t20 =>
  (cond t20
    ((q_impl_VecOk v2).bind fun t23 =>
    some t23)
    (some false)).bind fun t24 =>
  cond t24
    ((ix t9.2.2.1.length port1).bind fun j32 =>
    (t9.2.2.1[j32]?).bind fun x =>
    (ix (t9.2.2.1.set j32 (x.1, x.2.1, true, x.2.2.2.1, x.2.2.2.2.1, x.2.2.2.2.2.1, x.2.2.2.2.2.2.1, x.2.2.2.2.2.2.2)).length port1).bind fun j34 =>
    ((t9.2.2.1.set j32 (x.1, x.2.1, true, x.2.2.2.1, x.2.2.2.2.1, x.2.2.2.2.2.1, x.2.2.2.2.2.2.1, x.2.2.2.2.2.2.2))[j34]?).bind fun x_1 =>
    (q_impl_Bridge_turn (t9.1, t9.2.1, (t9.2.2.1.set j32 (x.1, x.2.1, true, x.2.2.2.1, x.2.2.2.2.1, x.2.2.2.2.2.1, x.2.2.2.2.2.2.1, x.2.2.2.2.2.2.2)).set j34 (x_1.1, x_1.2.1, x_1.2.2.1, v2.1, v2.2.1, v2.2.2.1, v2.2.2.2.1, v2.2.2.2.2), t9.2.2.2.1, t9.2.2.2.2.1, t9.2.2.2.2.2.1, t9.2.2.2.2.2.2.1, t9.2.2.2.2.2.2.2.1, t9.2.2.2.2.2.2.2.2.1, t9.2.2.2.2.2.2.2.2.2.1, t9.2.2.2.2.2.2.2.2.2.2)).bind fun t36 =>
    some t36)
    (some t9)
theorem q_impl_HearVec_le (b0 : Bridge) (port1 : Int) (v2 : Vec) : Le' (q_impl_HearVec b0 port1 v2) (impl_HearVec b0 port1 v2) := by
  unfold q_impl_HearVec impl_HearVec
  try simp only [qw_eq, qlt_eq, qat_eq, qle_eq]
  repeat' (first | with_reducible exact q_impl_copyBridge_le _ | with_reducible exact q_impl_isPort_le _ _ | with_reducible exact q_impl_VecOk_le _ | with_reducible exact q_impl_Bridge_turn_le _ | with_reducible refine Le'.bind ?_ fun _ => ?_ | with_reducible refine Le'.cond ?_ ?_ | with_reducible refine Le'.loop fun _ => ?_ | with_reducible refine Le'.sum (fun _ => ?_) (fun _ => ?_) _ | with_reducible exact Le'.refl _)
def q_impl_Net_hear (n0 : Net) (b1 : Int) (p2 : Int) (v3 : Vec) : Option Net :=
  (ix n0.1.length b1).bind fun j18 =>
  (n0.1[j18]?).bind fun x19 =>
  (q_impl_HearVec x19 p2 v3).bind fun t22 =>
  (ix n0.1.length b1).bind fun j23 =>
  (n0.1[j23]?).bind fun x =>
  some (n0.1.set j23 t22, n0.2.1, n0.2.2)
theorem q_impl_Net_hear_le (n0 : Net) (b1 : Int) (p2 : Int) (v3 : Vec) : Le' (q_impl_Net_hear n0 b1 p2 v3) (impl_Net_hear n0 b1 p2 v3) := by
  unfold q_impl_Net_hear impl_Net_hear
  try simp only [qw_eq, qlt_eq, qat_eq, qle_eq]
  repeat' (first | with_reducible exact q_impl_HearVec_le _ _ _ | with_reducible refine Le'.bind ?_ fun _ => ?_ | with_reducible refine Le'.cond ?_ ?_ | with_reducible refine Le'.loop fun _ => ?_ | with_reducible refine Le'.sum (fun _ => ?_) (fun _ => ?_) _ | with_reducible exact Le'.refl _)
def q_impl_Round_l0 (n0 : Net) (t16 : Int) (b0 : List Bridge) (b1 : List Link) (b2 : List Say) : Option ((Int × List Bridge × List Link × List Say) ⊕ (List Bridge × List Link × List Say)) :=
  cond ((qlt (t16) ((n0.2.1.length : Int))))
    ((qat n0.2.1 t16).bind fun x19 =>
    (q_impl_LinkUp n0 t16).bind fun t23 =>
    cond t23
      ((q_impl_said n0 x19.2.2.1 x19.2.2.2).bind fun t33 =>
      (q_impl_Net_hear (b0, b1, b2) x19.1 x19.2.1 t33).bind fun t34 =>
      (q_impl_said n0 x19.1 x19.2.1).bind fun t44 =>
      (q_impl_Net_hear t34 x19.2.2.1 x19.2.2.2 t44).bind fun t45 =>
      some (.inl (qw (t16 + 1), t45.1, t45.2.1, t45.2.2)))
      (some (.inl (qw (t16 + 1), b0, b1, b2))))
    (some (.inr (b0, b1, b2)))
theorem q_impl_Round_l0_le (n0 : Net) (t16 : Int) (b0 : List Bridge) (b1 : List Link) (b2 : List Say) : Le' (q_impl_Round_l0 n0 t16 b0 b1 b2) (impl_Round_l0 n0 t16 b0 b1 b2) := by
  unfold q_impl_Round_l0 impl_Round_l0
  try simp only [qw_eq, qlt_eq, qat_eq, qle_eq]
  repeat' (first | with_reducible exact q_impl_LinkUp_le _ _ | with_reducible exact q_impl_said_le _ _ _ | with_reducible exact q_impl_Net_hear_le _ _ _ _ | with_reducible refine Le'.bind ?_ fun _ => ?_ | with_reducible refine Le'.cond ?_ ?_ | with_reducible refine Le'.loop fun _ => ?_ | with_reducible refine Le'.sum (fun _ => ?_) (fun _ => ?_) _ | with_reducible exact Le'.refl _)
def q_impl_Round (n0 : Net) : Option Net :=
  (q_impl_copyNet n0).bind fun t7 =>
  (q_impl_NetOk n0).bind fun t9 =>
  cond (!t9)
    (some t7)
    ((qloop (fun z => q_impl_Round_l0 n0 z.1 z.2.1 z.2.2.1 z.2.2.2) (0, t7.1, t7.2.1, [])).bind fun d =>
    some d)
theorem q_impl_Round_le (n0 : Net) : Le' (q_impl_Round n0) (impl_Round n0) := by
  unfold q_impl_Round impl_Round
  try simp only [qw_eq, qlt_eq, qat_eq, qle_eq]
  repeat' (first | with_reducible exact q_impl_copyNet_le _ | with_reducible exact q_impl_NetOk_le _ | with_reducible exact q_impl_Round_l0_le _ _ _ _ _ | with_reducible refine Le'.bind ?_ fun _ => ?_ | with_reducible refine Le'.cond ?_ ?_ | with_reducible refine Le'.loop fun _ => ?_ | with_reducible refine Le'.sum (fun _ => ?_) (fun _ => ?_) _ | with_reducible exact Le'.refl _)
def q_impl_Rounds_l0 (k1 : Int) (t11 : Int) (b0 : List Bridge) (b1 : List Link) (b2 : List Say) : Option ((Int × List Bridge × List Link × List Say) ⊕ (List Bridge × List Link × List Say)) :=
  cond ((qlt (t11) ((max2 0 (min2 k1 30)))))
    ((q_impl_Round (b0, b1, b2)).bind fun t14 =>
    some (.inl (qw (t11 + 1), t14.1, t14.2.1, t14.2.2)))
    (some (.inr (b0, b1, b2)))
theorem q_impl_Rounds_l0_le (k1 : Int) (t11 : Int) (b0 : List Bridge) (b1 : List Link) (b2 : List Say) : Le' (q_impl_Rounds_l0 k1 t11 b0 b1 b2) (impl_Rounds_l0 k1 t11 b0 b1 b2) := by
  unfold q_impl_Rounds_l0 impl_Rounds_l0
  try simp only [qw_eq, qlt_eq, qat_eq, qle_eq]
  repeat' (first | with_reducible exact q_impl_Round_le _ | with_reducible refine Le'.bind ?_ fun _ => ?_ | with_reducible refine Le'.cond ?_ ?_ | with_reducible refine Le'.loop fun _ => ?_ | with_reducible refine Le'.sum (fun _ => ?_) (fun _ => ?_) _ | with_reducible exact Le'.refl _)
def q_impl_Rounds (n0 : Net) (k1 : Int) : Option Net :=
  (q_impl_copyNet n0).bind fun t7 =>
  (qloop (fun z => q_impl_Rounds_l0 k1 z.1 z.2.1 z.2.2.1 z.2.2.2) (0, t7.1, t7.2.1, t7.2.2)).bind fun d =>
  some d
theorem q_impl_Rounds_le (n0 : Net) (k1 : Int) : Le' (q_impl_Rounds n0 k1) (impl_Rounds n0 k1) := by
  unfold q_impl_Rounds impl_Rounds
  try simp only [qw_eq, qlt_eq, qat_eq, qle_eq]
  repeat' (first | with_reducible exact q_impl_copyNet_le _ | with_reducible exact q_impl_Rounds_l0_le _ _ _ _ _ | with_reducible refine Le'.bind ?_ fun _ => ?_ | with_reducible refine Le'.cond ?_ ?_ | with_reducible refine Le'.loop fun _ => ?_ | with_reducible refine Le'.sum (fun _ => ?_) (fun _ => ?_) _ | with_reducible exact Le'.refl _)
def q_impl_VtabNew_l0 (ports0 : Int) (t16 : Int) (b1 : List Int) : Option ((Int × List Int) ⊕ (List Int)) :=
  cond ((qlt (t16) (ports0)))
    ((app b1 ([1] : List Int)).bind fun zs21 =>
    some (.inl (qw (t16 + 1), zs21)))
    (some (.inr b1))
theorem q_impl_VtabNew_l0_le (ports0 : Int) (t16 : Int) (b1 : List Int) : Le' (q_impl_VtabNew_l0 ports0 t16 b1) (impl_VtabNew_l0 ports0 t16 b1) := by
  unfold q_impl_VtabNew_l0 impl_VtabNew_l0
  try simp only [qw_eq, qlt_eq, qat_eq, qle_eq]
  repeat' (first | with_reducible refine Le'.bind ?_ fun _ => ?_ | with_reducible refine Le'.cond ?_ ?_ | with_reducible refine Le'.loop fun _ => ?_ | with_reducible refine Le'.sum (fun _ => ?_) (fun _ => ?_) _ | with_reducible exact Le'.refl _)
def q_impl_VtabNew (ports0 : Int) : Option Vtab :=
  (q_impl_in ports0 1 6).bind fun t5 =>
  cond (!t5)
    (some ([], []))
    ((q_impl_allPorts ports0).bind fun t9 =>
    (q_impl_allPorts ports0).bind fun t11 =>
    (qloop (fun z => q_impl_VtabNew_l0 ports0 z.1 z.2) (0, [])).bind fun d =>
    some ([(1, t9, t11)], d))
theorem q_impl_VtabNew_le (ports0 : Int) : Le' (q_impl_VtabNew ports0) (impl_VtabNew ports0) := by
  unfold q_impl_VtabNew impl_VtabNew
  try simp only [qw_eq, qlt_eq, qat_eq, qle_eq]
  repeat' (first | with_reducible exact q_impl_in_le _ _ _ | with_reducible exact q_impl_allPorts_le _ | with_reducible exact q_impl_VtabNew_l0_le _ _ _ | with_reducible refine Le'.bind ?_ fun _ => ?_ | with_reducible refine Le'.cond ?_ ?_ | with_reducible refine Le'.loop fun _ => ?_ | with_reducible refine Le'.sum (fun _ => ?_) (fun _ => ?_) _ | with_reducible exact Le'.refl _)
def q_impl_BridgeNew_l0 (ports1 : Int) (t20 : Int) (b0 : Int) (b1 : List UInt8) (b6 : Int) (b7 : Int) (b8 : Int) (b9 : Int) (b10 : Int) (b2 : List Pt) (b3 : List Fent) : Option ((Int × Int × List UInt8 × Int × Int × Int × Int × Int × List Pt × List Fent) ⊕ (Int × List UInt8 × Int × Int × Int × Int × Int × List Pt × List Fent)) :=
  cond ((qlt (t20) (ports1)))
    ((app b2 [(false, 1, false, 0, 0, 0, 0, 0)]).bind fun zs26 =>
    some (.inl (qw (t20 + 1), b0, b1, b6, b7, b8, b9, b10, zs26, b3)))
    (some (.inr (b0, b1, b6, b7, b8, b9, b10, b2, b3)))
theorem q_impl_BridgeNew_l0_le (ports1 : Int) (t20 : Int) (b0 : Int) (b1 : List UInt8) (b6 : Int) (b7 : Int) (b8 : Int) (b9 : Int) (b10 : Int) (b2 : List Pt) (b3 : List Fent) : Le' (q_impl_BridgeNew_l0 ports1 t20 b0 b1 b6 b7 b8 b9 b10 b2 b3) (impl_BridgeNew_l0 ports1 t20 b0 b1 b6 b7 b8 b9 b10 b2 b3) := by
  unfold q_impl_BridgeNew_l0 impl_BridgeNew_l0
  try simp only [qw_eq, qlt_eq, qat_eq, qle_eq]
  repeat' (first | with_reducible refine Le'.bind ?_ fun _ => ?_ | with_reducible refine Le'.cond ?_ ?_ | with_reducible refine Le'.loop fun _ => ?_ | with_reducible refine Le'.sum (fun _ => ?_) (fun _ => ?_) _ | with_reducible exact Le'.refl _)
def q_impl_BridgeNew (id0 : Int) (ports1 : Int) : Option Bridge :=
  (q_impl_in id0 1 99).bind fun t7 =>
  (cond (!t7)
    (some true)
    ((q_impl_in ports1 1 6).bind fun t11 =>
    some (!t11))).bind fun t13 =>
  cond t13
    (some (0, [], [], [], [], [], 0, 0, 0, 0, 0))
    ((q_impl_VtabNew ports1).bind fun t17 =>
    (qloop (fun z => q_impl_BridgeNew_l0 ports1 z.1 z.2.1 z.2.2.1 z.2.2.2.1 z.2.2.2.2.1 z.2.2.2.2.2.1 z.2.2.2.2.2.2.1 z.2.2.2.2.2.2.2.1 z.2.2.2.2.2.2.2.2.1 z.2.2.2.2.2.2.2.2.2) (0, id0, [], 0, 0, 0, 0, 0, [], [])).bind fun d =>
    some (d.1, d.2.1, d.2.2.2.2.2.2.2.1, d.2.2.2.2.2.2.2.2, t17.1, t17.2, d.2.2.1, d.2.2.2.1, d.2.2.2.2.1, d.2.2.2.2.2.1, d.2.2.2.2.2.2.1))
theorem q_impl_BridgeNew_le (id0 : Int) (ports1 : Int) : Le' (q_impl_BridgeNew id0 ports1) (impl_BridgeNew id0 ports1) := by
  unfold q_impl_BridgeNew impl_BridgeNew
  try simp only [qw_eq, qlt_eq, qat_eq, qle_eq]
  repeat' (first | with_reducible exact q_impl_in_le _ _ _ | with_reducible exact q_impl_VtabNew_le _ | with_reducible exact q_impl_BridgeNew_l0_le _ _ _ _ _ _ _ _ _ _ _ | with_reducible refine Le'.bind ?_ fun _ => ?_ | with_reducible refine Le'.cond ?_ ?_ | with_reducible refine Le'.loop fun _ => ?_ | with_reducible refine Le'.sum (fun _ => ?_) (fun _ => ?_) _ | with_reducible exact Le'.refl _)
def q_impl_LinkSet (b0 : Bridge) (port1 : Int) (up2 : Bool) : Option Bridge :=
  (q_impl_copyBridge b0).bind fun t9 =>
  (q_impl_isPort b0 port1).bind fun t12 =>
  cond t12
    ((qat b0.2.2.1 port1).bind fun x20 =>
    (ix t9.2.2.1.length port1).bind fun j24 =>
    (t9.2.2.1[j24]?).bind fun x =>
    (q_impl_Bridge_turn (t9.1, t9.2.1, t9.2.2.1.set j24 (up2, x20.2.1, false, 0, 0, 0, 0, 0), t9.2.2.2.1, t9.2.2.2.2.1, t9.2.2.2.2.2.1, t9.2.2.2.2.2.2.1, t9.2.2.2.2.2.2.2.1, t9.2.2.2.2.2.2.2.2.1, t9.2.2.2.2.2.2.2.2.2.1, t9.2.2.2.2.2.2.2.2.2.2)).bind fun t25 =>
    some t25)
    (some t9)
theorem q_impl_LinkSet_le (b0 : Bridge) (port1 : Int) (up2 : Bool) : Le' (q_impl_LinkSet b0 port1 up2) (impl_LinkSet b0 port1 up2) := by
  unfold q_impl_LinkSet impl_LinkSet
  try simp only [qw_eq, qlt_eq, qat_eq, qle_eq]
  repeat' (first | with_reducible exact q_impl_copyBridge_le _ | with_reducible exact q_impl_isPort_le _ _ | with_reducible exact q_impl_Bridge_turn_le _ | with_reducible refine Le'.bind ?_ fun _ => ?_ | with_reducible refine Le'.cond ?_ ?_ | with_reducible refine Le'.loop fun _ => ?_ | with_reducible refine Le'.sum (fun _ => ?_) (fun _ => ?_) _ | with_reducible exact Le'.refl _)
def q_impl_NetNew_l2 (t27 : Bridge) (t31 : Int) (b0_1 : Int) (b1 : List UInt8) (b6 : Int) (b7 : Int) (b8 : Int) (b9 : Int) (b10 : Int) (b2_1 : List Pt) (b3 : List Fent) (b4 : List Vrow) (b5 : List Int) : Option ((Int × Int × List UInt8 × Int × Int × Int × Int × Int × List Pt × List Fent × List Vrow × List Int) ⊕ (Int × List UInt8 × Int × Int × Int × Int × Int × List Pt × List Fent × List Vrow × List Int)) :=
  cond ((qlt (t31) ((t27.2.2.1.length : Int))))
    ((q_impl_LinkSet (b0_1, b1, b2_1, b3, b4, b5, b6, b7, b8, b9, b10) t31 true).bind fun t36 =>
    some (.inl (qw (t31 + 1), t36.1, t36.2.1, t36.2.2.2.2.2.2.1, t36.2.2.2.2.2.2.2.1, t36.2.2.2.2.2.2.2.2.1, t36.2.2.2.2.2.2.2.2.2.1, t36.2.2.2.2.2.2.2.2.2.2, t36.2.2.1, t36.2.2.2.1, t36.2.2.2.2.1, t36.2.2.2.2.2.1)))
    (some (.inr (b0_1, b1, b6, b7, b8, b9, b10, b2_1, b3, b4, b5)))
theorem q_impl_NetNew_l2_le (t27 : Bridge) (t31 : Int) (b0_1 : Int) (b1 : List UInt8) (b6 : Int) (b7 : Int) (b8 : Int) (b9 : Int) (b10 : Int) (b2_1 : List Pt) (b3 : List Fent) (b4 : List Vrow) (b5 : List Int) : Le' (q_impl_NetNew_l2 t27 t31 b0_1 b1 b6 b7 b8 b9 b10 b2_1 b3 b4 b5) (impl_NetNew_l2 t27 t31 b0_1 b1 b6 b7 b8 b9 b10 b2_1 b3 b4 b5) := by
  unfold q_impl_NetNew_l2 impl_NetNew_l2
  try simp only [qw_eq, qlt_eq, qat_eq, qle_eq]
  repeat' (first | with_reducible exact q_impl_LinkSet_le _ _ _ | with_reducible refine Le'.bind ?_ fun _ => ?_ | with_reducible refine Le'.cond ?_ ?_ | with_reducible refine Le'.loop fun _ => ?_ | with_reducible refine Le'.sum (fun _ => ?_) (fun _ => ?_) _ | with_reducible exact Le'.refl _)
def q_impl_NetNew_l0 (ids0 : List Int) (ports1 : Int) (t21 : Int) (b0 : List Bridge) (b2 : List Say) : Option ((Int × List Bridge × List Say) ⊕ (List Bridge × List Say)) :=
  cond ((qlt (t21) ((ids0.length : Int))))
    ((qat ids0 t21).bind fun x23 =>
    (q_impl_BridgeNew x23 ports1).bind fun t27 =>
    (qloop (fun z => q_impl_NetNew_l2 t27 z.1 z.2.1 z.2.2.1 z.2.2.2.1 z.2.2.2.2.1 z.2.2.2.2.2.1 z.2.2.2.2.2.2.1 z.2.2.2.2.2.2.2.1 z.2.2.2.2.2.2.2.2.1 z.2.2.2.2.2.2.2.2.2.1 z.2.2.2.2.2.2.2.2.2.2.1 z.2.2.2.2.2.2.2.2.2.2.2) (0, t27.1, t27.2.1, t27.2.2.2.2.2.2.1, t27.2.2.2.2.2.2.2.1, t27.2.2.2.2.2.2.2.2.1, t27.2.2.2.2.2.2.2.2.2.1, t27.2.2.2.2.2.2.2.2.2.2, t27.2.2.1, t27.2.2.2.1, t27.2.2.2.2.1, t27.2.2.2.2.2.1)).bind fun d =>
    (app b0 [(d.1, d.2.1, d.2.2.2.2.2.2.2.1, d.2.2.2.2.2.2.2.2.1, d.2.2.2.2.2.2.2.2.2.1, d.2.2.2.2.2.2.2.2.2.2, d.2.2.1, d.2.2.2.1, d.2.2.2.2.1, d.2.2.2.2.2.1, d.2.2.2.2.2.2.1)]).bind fun zs42 =>
    some (.inl (qw (t21 + 1), zs42, b2)))
    (some (.inr (b0, b2)))
theorem q_impl_NetNew_l0_le (ids0 : List Int) (ports1 : Int) (t21 : Int) (b0 : List Bridge) (b2 : List Say) : Le' (q_impl_NetNew_l0 ids0 ports1 t21 b0 b2) (impl_NetNew_l0 ids0 ports1 t21 b0 b2) := by
  unfold q_impl_NetNew_l0 impl_NetNew_l0
  try simp only [qw_eq, qlt_eq, qat_eq, qle_eq]
  repeat' (first | with_reducible exact q_impl_BridgeNew_le _ _ | with_reducible exact q_impl_NetNew_l2_le _ _ _ _ _ _ _ _ _ _ _ _ _ | with_reducible refine Le'.bind ?_ fun _ => ?_ | with_reducible refine Le'.cond ?_ ?_ | with_reducible refine Le'.loop fun _ => ?_ | with_reducible refine Le'.sum (fun _ => ?_) (fun _ => ?_) _ | with_reducible exact Le'.refl _)
def q_impl_NetNew (ids0 : List Int) (ports1 : Int) (l2 : List Link) : Option Net :=
  cond ((qlt (6) ((ids0.length : Int))))
    (some ([], [], []))
    ((app [] l2).bind fun zs17 =>
    (qloop (fun z => q_impl_NetNew_l0 ids0 ports1 z.1 z.2.1 z.2.2) (0, [], [])).bind fun d_1 =>
    (q_impl_NetOk (d_1.1, zs17, d_1.2)).bind fun t46 =>
    cond (!t46) (some ([], [], [])) (some (d_1.1, zs17, d_1.2)))
theorem q_impl_NetNew_le (ids0 : List Int) (ports1 : Int) (l2 : List Link) : Le' (q_impl_NetNew ids0 ports1 l2) (impl_NetNew ids0 ports1 l2) := by
  unfold q_impl_NetNew impl_NetNew
  try simp only [qw_eq, qlt_eq, qat_eq, qle_eq]
  repeat' (first | with_reducible exact q_impl_NetNew_l0_le _ _ _ _ _ | with_reducible exact q_impl_NetOk_le _ | with_reducible refine Le'.bind ?_ fun _ => ?_ | with_reducible refine Le'.cond ?_ ?_ | with_reducible refine Le'.loop fun _ => ?_ | with_reducible refine Le'.sum (fun _ => ?_) (fun _ => ?_) _ | with_reducible exact Le'.refl _)
def q_laws_ring_l0 (n0 : Int) (first1 : Int) (i7 : Int) (ids5 : List Int) (l6 : List Link) : Option ((Int × List Int × List Link) ⊕ (List Int × List Link)) :=
  cond ((qlt (i7) (n0)))
    ((rem (qw ((qw (i7 - first1)) + n0)) n0).bind fun t22 =>
    (app ids5 [qw (1 + t22)]).bind fun zs25 =>
    (rem (qw (i7 + 1)) n0).bind fun t31 =>
    (app l6 [(i7, 1, t31, 0)]).bind fun zs34 =>
    some (.inl (qw (i7 + 1), zs25, zs34)))
    (some (.inr (ids5, l6)))
theorem q_laws_ring_l0_le (n0 : Int) (first1 : Int) (i7 : Int) (ids5 : List Int) (l6 : List Link) : Le' (q_laws_ring_l0 n0 first1 i7 ids5 l6) (laws_ring_l0 n0 first1 i7 ids5 l6) := by
  unfold q_laws_ring_l0 laws_ring_l0
  try simp only [qw_eq, qlt_eq, qat_eq, qle_eq]
  repeat' (first | with_reducible refine Le'.bind ?_ fun _ => ?_ | with_reducible refine Le'.cond ?_ ?_ | with_reducible refine Le'.loop fun _ => ?_ | with_reducible refine Le'.sum (fun _ => ?_) (fun _ => ?_) _ | with_reducible exact Le'.refl _)
def q_laws_ring (n0 : Int) (first1 : Int) : Option Net :=
  (qloop (fun z => q_laws_ring_l0 n0 first1 z.1 z.2.1 z.2.2) (0, ([] : List Int), ([] : List Link))).bind fun d =>
  (q_impl_NetNew d.1 3 d.2).bind fun t37 =>
  some t37
theorem q_laws_ring_le (n0 : Int) (first1 : Int) : Le' (q_laws_ring n0 first1) (laws_ring n0 first1) := by
  unfold q_laws_ring laws_ring
  try simp only [qw_eq, qlt_eq, qat_eq, qle_eq]
  repeat' (first | with_reducible exact q_laws_ring_l0_le _ _ _ _ _ | with_reducible exact q_impl_NetNew_le _ _ _ | with_reducible refine Le'.bind ?_ fun _ => ?_ | with_reducible refine Le'.cond ?_ ?_ | with_reducible refine Le'.loop fun _ => ?_ | with_reducible refine Le'.sum (fun _ => ?_) (fun _ => ?_) _ | with_reducible exact Le'.refl _)
def q_impl_sendsBy (n0 : Net) (b1 : Int) (p2 : Int) : Option Bool :=
  (qat n0.1 b1).bind fun x10 =>
  (qat n0.1 b1).bind fun x16 =>
  (q_impl_Sends x10.1 x16.2.2.1).bind fun t19 =>
  (q_impl_hasPort t19 p2).bind fun t21 =>
  some t21
theorem q_impl_sendsBy_le (n0 : Net) (b1 : Int) (p2 : Int) : Le' (q_impl_sendsBy n0 b1 p2) (impl_sendsBy n0 b1 p2) := by
  unfold q_impl_sendsBy impl_sendsBy
  try simp only [qw_eq, qlt_eq, qat_eq, qle_eq]
  repeat' (first | with_reducible exact q_impl_Sends_le _ _ | with_reducible exact q_impl_hasPort_le _ _ | with_reducible refine Le'.bind ?_ fun _ => ?_ | with_reducible refine Le'.cond ?_ ?_ | with_reducible refine Le'.loop fun _ => ?_ | with_reducible refine Le'.sum (fun _ => ?_) (fun _ => ?_) _ | with_reducible exact Le'.refl _)
def q_impl_Live_l0 (n0 : Net) (t9 : Int) (out3 : List Int) : Option ((Int × List Int) ⊕ (List Int)) :=
  cond ((qlt (t9) ((n0.2.1.length : Int))))
    ((qat n0.2.1 t9).bind fun x12 =>
    (q_impl_LinkUp n0 t9).bind fun t16 =>
    (cond t16
      ((q_impl_sendsBy n0 x12.1 x12.2.1).bind fun t23 =>
      some t23)
      (some false)).bind fun t24 =>
    (cond t24
      ((q_impl_sendsBy n0 x12.2.2.1 x12.2.2.2).bind fun t31 =>
      some t31)
      (some false)).bind fun t32 =>
    cond t32
      ((app out3 [t9]).bind fun zs36 =>
      some (.inl (qw (t9 + 1), zs36)))
      (some (.inl (qw (t9 + 1), out3))))
    (some (.inr out3))
theorem q_impl_Live_l0_le (n0 : Net) (t9 : Int) (out3 : List Int) : Le' (q_impl_Live_l0 n0 t9 out3) (impl_Live_l0 n0 t9 out3) := by
  unfold q_impl_Live_l0 impl_Live_l0
  try simp only [qw_eq, qlt_eq, qat_eq, qle_eq]
  repeat' (first | with_reducible exact q_impl_LinkUp_le _ _ | with_reducible exact q_impl_sendsBy_le _ _ _ | with_reducible refine Le'.bind ?_ fun _ => ?_ | with_reducible refine Le'.cond ?_ ?_ | with_reducible refine Le'.loop fun _ => ?_ | with_reducible refine Le'.sum (fun _ => ?_) (fun _ => ?_) _ | with_reducible exact Le'.refl _)
def q_impl_Live (n0 : Net) : Option (List Int) :=
  (qloop (fun z => q_impl_Live_l0 n0 z.1 z.2) (0, [])).bind fun d =>
  some d
theorem q_impl_Live_le (n0 : Net) : Le' (q_impl_Live n0) (impl_Live n0) := by
  unfold q_impl_Live impl_Live
  try simp only [qw_eq, qlt_eq, qat_eq, qle_eq]
  repeat' (first | with_reducible exact q_impl_Live_l0_le _ _ _ | with_reducible refine Le'.bind ?_ fun _ => ?_ | with_reducible refine Le'.cond ?_ ?_ | with_reducible refine Le'.loop fun _ => ?_ | with_reducible refine Le'.sum (fun _ => ?_) (fun _ => ?_) _ | with_reducible exact Le'.refl _)
def q_impl_knows (n0 : Net) (b1 : Int) (p2 : Int) (v3 : Vec) : Option Bool :=
  (q_impl_portAt n0 b1 p2).bind fun t15 =>
  (cond t15.2 (some t15.1.2.2.1) (some false)).bind fun t22 =>
  (cond t22
    (some (t15.1.2.2.2.1 == v3.1 && (t15.1.2.2.2.2.1 == v3.2.1 && (t15.1.2.2.2.2.2.1 == v3.2.2.1 && (t15.1.2.2.2.2.2.2.1 == v3.2.2.2.1 && (t15.1.2.2.2.2.2.2.2 == v3.2.2.2.2))))))
    (some false)).bind fun t28 =>
  some t28
theorem q_impl_knows_le (n0 : Net) (b1 : Int) (p2 : Int) (v3 : Vec) : Le' (q_impl_knows n0 b1 p2 v3) (impl_knows n0 b1 p2 v3) := by
  unfold q_impl_knows impl_knows
  try simp only [qw_eq, qlt_eq, qat_eq, qle_eq]
  repeat' (first | with_reducible exact q_impl_portAt_le _ _ _ | with_reducible refine Le'.bind ?_ fun _ => ?_ | with_reducible refine Le'.cond ?_ ?_ | with_reducible refine Le'.loop fun _ => ?_ | with_reducible refine Le'.sum (fun _ => ?_) (fun _ => ?_) _ | with_reducible exact Le'.refl _)
def q_impl_Agreed_l0 (n0 : Net) (t8 : Int) : Option (Int ⊕ (Unit ⊕ Bool)) :=
  cond ((qlt (t8) ((n0.2.1.length : Int))))
    ((qat n0.2.1 t8).bind fun x11 =>
    (q_impl_LinkUp n0 t8).bind fun t15 =>
    (cond t15
      ((q_impl_said n0 x11.2.2.1 x11.2.2.2).bind fun t27 =>
      (q_impl_knows n0 x11.1 x11.2.1 t27).bind fun t28 =>
      (cond (!t28)
        (some true)
        ((q_impl_said n0 x11.1 x11.2.1).bind fun t41 =>
        (q_impl_knows n0 x11.2.2.1 x11.2.2.2 t41).bind fun t42 =>
        some (!t42))).bind fun t44 =>
      some t44)
      (some false)).bind fun t45 =>
    cond t45 (some (.inr (.inr false))) (some (.inl (qw (t8 + 1)))))
    (some (.inr (.inl ())))
theorem q_impl_Agreed_l0_le (n0 : Net) (t8 : Int) : Le' (q_impl_Agreed_l0 n0 t8) (impl_Agreed_l0 n0 t8) := by
  unfold q_impl_Agreed_l0 impl_Agreed_l0
  try simp only [qw_eq, qlt_eq, qat_eq, qle_eq]
  repeat' (first | with_reducible exact q_impl_LinkUp_le _ _ | with_reducible exact q_impl_said_le _ _ _ | with_reducible exact q_impl_knows_le _ _ _ _ | with_reducible refine Le'.bind ?_ fun _ => ?_ | with_reducible refine Le'.cond ?_ ?_ | with_reducible refine Le'.loop fun _ => ?_ | with_reducible refine Le'.sum (fun _ => ?_) (fun _ => ?_) _ | with_reducible exact Le'.refl _)
def q_impl_Agreed (n0 : Net) : Option Bool :=
  (qloop (fun z => q_impl_Agreed_l0 n0 z) 0).bind (Sum.elim (fun d =>
    some true) (fun r => some r))
theorem q_impl_Agreed_le (n0 : Net) : Le' (q_impl_Agreed n0) (impl_Agreed n0) := by
  unfold q_impl_Agreed impl_Agreed
  try simp only [qw_eq, qlt_eq, qat_eq, qle_eq]
  repeat' (first | with_reducible exact q_impl_Agreed_l0_le _ _ | with_reducible refine Le'.bind ?_ fun _ => ?_ | with_reducible refine Le'.cond ?_ ?_ | with_reducible refine Le'.loop fun _ => ?_ | with_reducible refine Le'.sum (fun _ => ?_) (fun _ => ?_) _ | with_reducible exact Le'.refl _)
def q_impl_Net_speak_l0 (p0 : Net) (i1 : Int) (t11 : Int) (b2 : List Say) : Option ((Int × List Say) ⊕ (List Say)) :=
  cond ((qlt (t11) ((p0.2.1.length : Int))))
    ((ix p0.2.1.length t11).bind fun j14 =>
    (p0.2.1[j14]?).bind fun x15 =>
    (q_impl_LinkUp (p0.1, p0.2.1, b2) t11).bind fun t20 =>
    (cond (!t20) (some true) (some ((!(qlt ((b2.length : Int)) (40)))))).bind fun t29 =>
    cond t29
      (some (.inl (qw (t11 + 1), b2)))
      (cond (x15.1 == i1)
        ((q_impl_said (p0.1, p0.2.1, b2) i1 x15.2.1).bind fun t46 =>
        (app b2 [(t11, false, t46.1, t46.2.1, t46.2.2.1, t46.2.2.2.1, t46.2.2.2.2)]).bind fun zs49 =>
        some (.inl (qw (t11 + 1), zs49)))
        (cond (x15.2.2.1 == i1)
          ((q_impl_said (p0.1, p0.2.1, b2) i1 x15.2.2.2).bind fun t68 =>
          (app b2 [(t11, true, t68.1, t68.2.1, t68.2.2.1, t68.2.2.2.1, t68.2.2.2.2)]).bind fun zs71 =>
          some (.inl (qw (t11 + 1), zs71)))
          (some (.inl (qw (t11 + 1), b2))))))
    (some (.inr b2))
theorem q_impl_Net_speak_l0_le (p0 : Net) (i1 : Int) (t11 : Int) (b2 : List Say) : Le' (q_impl_Net_speak_l0 p0 i1 t11 b2) (impl_Net_speak_l0 p0 i1 t11 b2) := by
  unfold q_impl_Net_speak_l0 impl_Net_speak_l0
  try simp only [qw_eq, qlt_eq, qat_eq, qle_eq]
  repeat' (first | with_reducible exact q_impl_LinkUp_le _ _ | with_reducible exact q_impl_said_le _ _ _ | with_reducible refine Le'.bind ?_ fun _ => ?_ | with_reducible refine Le'.cond ?_ ?_ | with_reducible refine Le'.loop fun _ => ?_ | with_reducible refine Le'.sum (fun _ => ?_) (fun _ => ?_) _ | with_reducible exact Le'.refl _)
def q_impl_Net_speak (p0 : Net) (i1 : Int) : Option Net :=
  (qloop (fun z => q_impl_Net_speak_l0 p0 i1 z.1 z.2) (0, p0.2.2)).bind fun d =>
  some (p0.1, p0.2.1, d)
theorem q_impl_Net_speak_le (p0 : Net) (i1 : Int) : Le' (q_impl_Net_speak p0 i1) (impl_Net_speak p0 i1) := by
  unfold q_impl_Net_speak impl_Net_speak
  try simp only [qw_eq, qlt_eq, qat_eq, qle_eq]
  repeat' (first | with_reducible exact q_impl_Net_speak_l0_le _ _ _ _ | with_reducible refine Le'.bind ?_ fun _ => ?_ | with_reducible refine Le'.cond ?_ ?_ | with_reducible refine Le'.loop fun _ => ?_ | with_reducible refine Le'.sum (fun _ => ?_) (fun _ => ?_) _ | with_reducible exact Le'.refl _)
def q_impl_AgeAll_l0 (l0 : List Fent) (t8 : Int) (out3 : List Fent) : Option ((Int × List Fent) ⊕ (List Fent)) :=
  cond ((qlt (t8) ((l0.length : Int))))
    ((qat l0 t8).bind fun x10 =>
    cond (!x10.2.2.2.2)
      (cond ((!(qlt (x10.2.2.2.1) (4))))
        (some (.inl (qw (t8 + 1), out3)))
        ((app out3 [(x10.1, x10.2.1, x10.2.2.1, qw (x10.2.2.2.1 + 1), x10.2.2.2.2)]).bind fun zs25 =>
        some (.inl (qw (t8 + 1), zs25))))
      ((app out3 [x10]).bind fun zs25_1 =>
      some (.inl (qw (t8 + 1), zs25_1))))
    (some (.inr out3))
theorem q_impl_AgeAll_l0_le (l0 : List Fent) (t8 : Int) (out3 : List Fent) : Le' (q_impl_AgeAll_l0 l0 t8 out3) (impl_AgeAll_l0 l0 t8 out3) := by
  unfold q_impl_AgeAll_l0 impl_AgeAll_l0
  try simp only [qw_eq, qlt_eq, qat_eq, qle_eq]
  repeat' (first | with_reducible refine Le'.bind ?_ fun _ => ?_ | with_reducible refine Le'.cond ?_ ?_ | with_reducible refine Le'.loop fun _ => ?_ | with_reducible refine Le'.sum (fun _ => ?_) (fun _ => ?_) _ | with_reducible exact Le'.refl _)
def q_impl_AgeAll (l0 : List Fent) : Option (List Fent) :=
  (qloop (fun z => q_impl_AgeAll_l0 l0 z.1 z.2) (0, [])).bind fun d =>
  some d
theorem q_impl_AgeAll_le (l0 : List Fent) : Le' (q_impl_AgeAll l0) (impl_AgeAll l0) := by
  unfold q_impl_AgeAll impl_AgeAll
  try simp only [qw_eq, qlt_eq, qat_eq, qle_eq]
  repeat' (first | with_reducible exact q_impl_AgeAll_l0_le _ _ _ | with_reducible refine Le'.bind ?_ fun _ => ?_ | with_reducible refine Le'.cond ?_ ?_ | with_reducible refine Le'.loop fun _ => ?_ | with_reducible refine Le'.sum (fun _ => ?_) (fun _ => ?_) _ | with_reducible exact Le'.refl _)
def q_impl_Tick (b0 : Bridge) : Option Bridge :=
  (q_impl_copyBridge b0).bind fun t5 =>
  (q_impl_BridgeOk b0).bind fun t7 =>
  cond t7
    ((q_impl_more b0.2.2.2.2.2.2.1).bind fun t10 =>
    (q_impl_AgeAll b0.2.2.2.1).bind fun t14 =>
    (q_impl_Bridge_turn (t5.1, t5.2.1, t5.2.2.1, t14, t5.2.2.2.2.1, t5.2.2.2.2.2.1, t10, t5.2.2.2.2.2.2.2.1, t5.2.2.2.2.2.2.2.2.1, t5.2.2.2.2.2.2.2.2.2.1, t5.2.2.2.2.2.2.2.2.2.2)).bind fun t16 =>
    some t16)
    (some t5)
theorem q_impl_Tick_le (b0 : Bridge) : Le' (q_impl_Tick b0) (impl_Tick b0) := by
  unfold q_impl_Tick impl_Tick
  try simp only [qw_eq, qlt_eq, qat_eq, qle_eq]
  repeat' (first | with_reducible exact q_impl_copyBridge_le _ | with_reducible exact q_impl_BridgeOk_le _ | with_reducible exact q_impl_more_le _ | with_reducible exact q_impl_AgeAll_le _ | with_reducible exact q_impl_Bridge_turn_le _ | with_reducible refine Le'.bind ?_ fun _ => ?_ | with_reducible refine Le'.cond ?_ ?_ | with_reducible refine Le'.loop fun _ => ?_ | with_reducible refine Le'.sum (fun _ => ?_) (fun _ => ?_) _ | with_reducible exact Le'.refl _)
def q_impl_Net_arrive (p0 : Net) (i1 : Int) (a2 : Bool) : Option Net :=
  (ix p0.2.2.length i1).bind fun j13 =>
  (p0.2.2[j13]?).bind fun x14 =>
  (cutIx p0.2.2.length 0 i1).bind fun p =>
  (app [] ((p0.2.2.take p.2).drop p.1)).bind fun zs22 =>
  (cutIx p0.2.2.length (qw (i1 + 1)) (p0.2.2.length : Int)).bind fun p_1 =>
  (app zs22 ((p0.2.2.take p_1.2).drop p_1.1)).bind fun zs30 =>
  (cond (!a2)
    (some true)
    ((q_impl_LinkUp (p0.1, p0.2.1, zs30) x14.1).bind fun t41 =>
    some (!t41))).bind fun t43 =>
  cond t43
    (some (p0.1, p0.2.1, zs30))
    ((ix p0.2.1.length x14.1).bind fun j50 =>
    (p0.2.1[j50]?).bind fun x51 =>
    cond x14.2.1
      ((q_impl_Net_hear (p0.1, p0.2.1, zs30) x51.1 x51.2.1 x14.2.2).bind fun t61 =>
      some t61)
      ((q_impl_Net_hear (p0.1, p0.2.1, zs30) x51.2.2.1 x51.2.2.2 x14.2.2).bind fun t69 =>
      some t69))
theorem q_impl_Net_arrive_le (p0 : Net) (i1 : Int) (a2 : Bool) : Le' (q_impl_Net_arrive p0 i1 a2) (impl_Net_arrive p0 i1 a2) := by
  unfold q_impl_Net_arrive impl_Net_arrive
  try simp only [qw_eq, qlt_eq, qat_eq, qle_eq]
  repeat' (first | with_reducible exact q_impl_LinkUp_le _ _ | with_reducible exact q_impl_Net_hear_le _ _ _ _ | with_reducible refine Le'.bind ?_ fun _ => ?_ | with_reducible refine Le'.cond ?_ ?_ | with_reducible refine Le'.loop fun _ => ?_ | with_reducible refine Le'.sum (fun _ => ?_) (fun _ => ?_) _ | with_reducible exact Le'.refl _)
def q_impl_Net_link (n0 : Net) (k1 : Int) (up2 : Bool) : Option Net :=
  (q_impl_LinkUp n0 k1).bind fun t11 =>
  cond (t11 == up2)
    (some n0)
    ((ix n0.2.1.length k1).bind fun j19 =>
    (n0.2.1[j19]?).bind fun x20 =>
    (ix n0.1.length x20.1).bind fun j33 =>
    (n0.1[j33]?).bind fun x34 =>
    (q_impl_LinkSet x34 x20.2.1 up2).bind fun t38 =>
    (ix n0.1.length x20.1).bind fun j39 =>
    (n0.1[j39]?).bind fun x =>
    (ix (n0.1.set j39 t38).length x20.2.2.1).bind fun j52 =>
    ((n0.1.set j39 t38)[j52]?).bind fun x53 =>
    (q_impl_LinkSet x53 x20.2.2.2 up2).bind fun t57 =>
    (ix (n0.1.set j39 t38).length x20.2.2.1).bind fun j58 =>
    ((n0.1.set j39 t38)[j58]?).bind fun x_1 =>
    some ((n0.1.set j39 t38).set j58 t57, n0.2.1, n0.2.2))
theorem q_impl_Net_link_le (n0 : Net) (k1 : Int) (up2 : Bool) : Le' (q_impl_Net_link n0 k1 up2) (impl_Net_link n0 k1 up2) := by
  unfold q_impl_Net_link impl_Net_link
  try simp only [qw_eq, qlt_eq, qat_eq, qle_eq]
  repeat' (first | with_reducible exact q_impl_LinkUp_le _ _ | with_reducible exact q_impl_LinkSet_le _ _ _ | with_reducible refine Le'.bind ?_ fun _ => ?_ | with_reducible refine Le'.cond ?_ ?_ | with_reducible refine Le'.loop fun _ => ?_ | with_reducible refine Le'.sum (fun _ => ?_) (fun _ => ?_) _ | with_reducible exact Le'.refl _)
def q_impl_Step (p0 : Net) (i1 : Event) : Option (Net × Bool) :=
  (q_impl_copyNet p0).bind fun t9 =>
  (q_impl_NetOk p0).bind fun t11 =>
  cond (!t11)
    (some (t9, false))
    (cond (i1.1 == 1)
      (cond (i1.1 == 1)
        ((q_impl_in i1.2 0 (qw ((p0.1.length : Int) - 1))).bind fun t38 =>
        cond (!t38)
          (some (t9, false))
          (cond (i1.1 == 1)
            ((q_impl_Net_speak t9 i1.2).bind fun t53 =>
            some (t53, true))
            (cond (i1.1 == 6)
              ((qat p0.1 i1.2).bind fun x64 =>
              (q_impl_Tick x64).bind fun t66 =>
              (ix t9.1.length i1.2).bind fun j67 =>
              (t9.1[j67]?).bind fun x =>
              some ((t9.1.set j67 t66, t9.2.1, t9.2.2), true))
              (cond (i1.1 == 2)
                (cond (i1.1 == 2)
                  ((q_impl_Net_arrive t9 i1.2 (i1.1 == 2)).bind fun t76 =>
                  some (t76, true))
                  ((q_impl_Net_link t9 i1.2 (i1.1 == 5)).bind fun t48 =>
                  some (t48, true)))
                (cond (i1.1 == 3)
                  ((q_impl_Net_arrive t9 i1.2 (i1.1 == 2)).bind fun t76_1 =>
                  some (t76_1, true))
                  ((q_impl_Net_link t9 i1.2 (i1.1 == 5)).bind fun t48_1 =>
                  some (t48_1, true)))))))
        (cond (i1.1 == 2)
          (cond (i1.1 == 2)
            ((q_impl_in i1.2 0 (qw ((p0.2.2.length : Int) - 1))).bind fun t38_1 =>
            cond (!t38_1)
              (some (t9, false))
              (cond (i1.1 == 1)
                ((q_impl_Net_speak t9 i1.2).bind fun t53_1 =>
                some (t53_1, true))
                (cond (i1.1 == 6)
                  ((qat p0.1 i1.2).bind fun x64_1 =>
                  (q_impl_Tick x64_1).bind fun t66_1 =>
                  (ix t9.1.length i1.2).bind fun j67_1 =>
                  (t9.1[j67_1]?).bind fun x_1 =>
                  some ((t9.1.set j67_1 t66_1, t9.2.1, t9.2.2), true))
                  (cond (i1.1 == 2)
                    (cond (i1.1 == 2)
                      ((q_impl_Net_arrive t9 i1.2 (i1.1 == 2)).bind fun t76_2 =>
                      some (t76_2, true))
                      ((q_impl_Net_link t9 i1.2 (i1.1 == 5)).bind fun t48_2 =>
                      some (t48_2, true)))
                    (cond (i1.1 == 3)
                      ((q_impl_Net_arrive t9 i1.2 (i1.1 == 2)).bind fun t76_3 =>
                      some (t76_3, true))
                      ((q_impl_Net_link t9 i1.2 (i1.1 == 5)).bind fun t48_3 =>
                      some (t48_3, true)))))))
            (cond (i1.1 == 4)
              (cond (i1.1 == 4)
                ((q_impl_in i1.2 0 (qw ((p0.2.1.length : Int) - 1))).bind fun t38_2 =>
                cond (!t38_2)
                  (some (t9, false))
                  (cond (i1.1 == 1)
                    ((q_impl_Net_speak t9 i1.2).bind fun t53_2 =>
                    some (t53_2, true))
                    (cond (i1.1 == 6)
                      ((qat p0.1 i1.2).bind fun x64_2 =>
                      (q_impl_Tick x64_2).bind fun t66_2 =>
                      (ix t9.1.length i1.2).bind fun j67_2 =>
                      (t9.1[j67_2]?).bind fun x_2 =>
                      some ((t9.1.set j67_2 t66_2, t9.2.1, t9.2.2), true))
                      (cond (i1.1 == 2)
                        (cond (i1.1 == 2)
                          ((q_impl_Net_arrive t9 i1.2 (i1.1 == 2)).bind fun t76_4 =>
                          some (t76_4, true))
                          ((q_impl_Net_link t9 i1.2 (i1.1 == 5)).bind fun t48_4 =>
                          some (t48_4, true)))
                        (cond (i1.1 == 3)
                          ((q_impl_Net_arrive t9 i1.2 (i1.1 == 2)).bind fun t76_5 =>
                          some (t76_5, true))
                          ((q_impl_Net_link t9 i1.2 (i1.1 == 5)).bind fun t48_5 =>
                          some (t48_5, true)))))))
                ((q_impl_in i1.2 0 (qw (0 - 1))).bind fun t38_3 =>
                cond (!t38_3)
                  (some (t9, false))
                  (cond (i1.1 == 1)
                    ((q_impl_Net_speak t9 i1.2).bind fun t53_3 =>
                    some (t53_3, true))
                    (cond (i1.1 == 6)
                      ((qat p0.1 i1.2).bind fun x64_3 =>
                      (q_impl_Tick x64_3).bind fun t66_3 =>
                      (ix t9.1.length i1.2).bind fun j67_3 =>
                      (t9.1[j67_3]?).bind fun x_3 =>
                      some ((t9.1.set j67_3 t66_3, t9.2.1, t9.2.2), true))
                      (cond (i1.1 == 2)
                        (cond (i1.1 == 2)
                          ((q_impl_Net_arrive t9 i1.2 (i1.1 == 2)).bind fun t76_6 =>
                          some (t76_6, true))
                          ((q_impl_Net_link t9 i1.2 (i1.1 == 5)).bind fun t48_6 =>
                          some (t48_6, true)))
                        (cond (i1.1 == 3)
                          ((q_impl_Net_arrive t9 i1.2 (i1.1 == 2)).bind fun t76_7 =>
                          some (t76_7, true))
                          ((q_impl_Net_link t9 i1.2 (i1.1 == 5)).bind fun t48_7 =>
                          some (t48_7, true))))))))
              (cond (i1.1 == 5)
                ((q_impl_in i1.2 0 (qw ((p0.2.1.length : Int) - 1))).bind fun t38_4 =>
                cond (!t38_4)
                  (some (t9, false))
                  (cond (i1.1 == 1)
                    ((q_impl_Net_speak t9 i1.2).bind fun t53_4 =>
                    some (t53_4, true))
                    (cond (i1.1 == 6)
                      ((qat p0.1 i1.2).bind fun x64_4 =>
                      (q_impl_Tick x64_4).bind fun t66_4 =>
                      (ix t9.1.length i1.2).bind fun j67_4 =>
                      (t9.1[j67_4]?).bind fun x_4 =>
                      some ((t9.1.set j67_4 t66_4, t9.2.1, t9.2.2), true))
                      (cond (i1.1 == 2)
                        (cond (i1.1 == 2)
                          ((q_impl_Net_arrive t9 i1.2 (i1.1 == 2)).bind fun t76_8 =>
                          some (t76_8, true))
                          ((q_impl_Net_link t9 i1.2 (i1.1 == 5)).bind fun t48_8 =>
                          some (t48_8, true)))
                        (cond (i1.1 == 3)
                          ((q_impl_Net_arrive t9 i1.2 (i1.1 == 2)).bind fun t76_9 =>
                          some (t76_9, true))
                          ((q_impl_Net_link t9 i1.2 (i1.1 == 5)).bind fun t48_9 =>
                          some (t48_9, true)))))))
                ((q_impl_in i1.2 0 (qw (0 - 1))).bind fun t38_5 =>
                cond (!t38_5)
                  (some (t9, false))
                  (cond (i1.1 == 1)
                    ((q_impl_Net_speak t9 i1.2).bind fun t53_5 =>
                    some (t53_5, true))
                    (cond (i1.1 == 6)
                      ((qat p0.1 i1.2).bind fun x64_5 =>
                      (q_impl_Tick x64_5).bind fun t66_5 =>
                      (ix t9.1.length i1.2).bind fun j67_5 =>
                      (t9.1[j67_5]?).bind fun x_5 =>
                      some ((t9.1.set j67_5 t66_5, t9.2.1, t9.2.2), true))
                      (cond (i1.1 == 2)
                        (cond (i1.1 == 2)
                          ((q_impl_Net_arrive t9 i1.2 (i1.1 == 2)).bind fun t76_10 =>
                          some (t76_10, true))
                          ((q_impl_Net_link t9 i1.2 (i1.1 == 5)).bind fun t48_10 =>
                          some (t48_10, true)))
                        (cond (i1.1 == 3)
                          ((q_impl_Net_arrive t9 i1.2 (i1.1 == 2)).bind fun t76_11 =>
                          some (t76_11, true))
                          ((q_impl_Net_link t9 i1.2 (i1.1 == 5)).bind fun t48_11 =>
                          some (t48_11, true))))))))))
          (cond (i1.1 == 3)
            ((q_impl_in i1.2 0 (qw ((p0.2.2.length : Int) - 1))).bind fun t38_6 =>
            cond (!t38_6)
              (some (t9, false))
              (cond (i1.1 == 1)
                ((q_impl_Net_speak t9 i1.2).bind fun t53_6 =>
                some (t53_6, true))
                (cond (i1.1 == 6)
                  ((qat p0.1 i1.2).bind fun x64_6 =>
                  (q_impl_Tick x64_6).bind fun t66_6 =>
                  (ix t9.1.length i1.2).bind fun j67_6 =>
                  (t9.1[j67_6]?).bind fun x_6 =>
                  some ((t9.1.set j67_6 t66_6, t9.2.1, t9.2.2), true))
                  (cond (i1.1 == 2)
                    (cond (i1.1 == 2)
                      ((q_impl_Net_arrive t9 i1.2 (i1.1 == 2)).bind fun t76_12 =>
                      some (t76_12, true))
                      ((q_impl_Net_link t9 i1.2 (i1.1 == 5)).bind fun t48_12 =>
                      some (t48_12, true)))
                    (cond (i1.1 == 3)
                      ((q_impl_Net_arrive t9 i1.2 (i1.1 == 2)).bind fun t76_13 =>
                      some (t76_13, true))
                      ((q_impl_Net_link t9 i1.2 (i1.1 == 5)).bind fun t48_13 =>
                      some (t48_13, true)))))))
            (cond (i1.1 == 4)
              (cond (i1.1 == 4)
                ((q_impl_in i1.2 0 (qw ((p0.2.1.length : Int) - 1))).bind fun t38_7 =>
                cond (!t38_7)
                  (some (t9, false))
                  (cond (i1.1 == 1)
                    ((q_impl_Net_speak t9 i1.2).bind fun t53_7 =>
                    some (t53_7, true))
                    (cond (i1.1 == 6)
                      ((qat p0.1 i1.2).bind fun x64_7 =>
                      (q_impl_Tick x64_7).bind fun t66_7 =>
                      (ix t9.1.length i1.2).bind fun j67_7 =>
                      (t9.1[j67_7]?).bind fun x_7 =>
                      some ((t9.1.set j67_7 t66_7, t9.2.1, t9.2.2), true))
                      (cond (i1.1 == 2)
                        (cond (i1.1 == 2)
                          ((q_impl_Net_arrive t9 i1.2 (i1.1 == 2)).bind fun t76_14 =>
                          some (t76_14, true))
                          ((q_impl_Net_link t9 i1.2 (i1.1 == 5)).bind fun t48_14 =>
                          some (t48_14, true)))
                        (cond (i1.1 == 3)
                          ((q_impl_Net_arrive t9 i1.2 (i1.1 == 2)).bind fun t76_15 =>
                          some (t76_15, true))
                          ((q_impl_Net_link t9 i1.2 (i1.1 == 5)).bind fun t48_15 =>
                          some (t48_15, true)))))))
                ((q_impl_in i1.2 0 (qw (0 - 1))).bind fun t38_8 =>
                cond (!t38_8)
                  (some (t9, false))
                  (cond (i1.1 == 1)
                    ((q_impl_Net_speak t9 i1.2).bind fun t53_8 =>
                    some (t53_8, true))
                    (cond (i1.1 == 6)
                      ((qat p0.1 i1.2).bind fun x64_8 =>
                      (q_impl_Tick x64_8).bind fun t66_8 =>
                      (ix t9.1.length i1.2).bind fun j67_8 =>
                      (t9.1[j67_8]?).bind fun x_8 =>
                      some ((t9.1.set j67_8 t66_8, t9.2.1, t9.2.2), true))
                      (cond (i1.1 == 2)
                        (cond (i1.1 == 2)
                          ((q_impl_Net_arrive t9 i1.2 (i1.1 == 2)).bind fun t76_16 =>
                          some (t76_16, true))
                          ((q_impl_Net_link t9 i1.2 (i1.1 == 5)).bind fun t48_16 =>
                          some (t48_16, true)))
                        (cond (i1.1 == 3)
                          ((q_impl_Net_arrive t9 i1.2 (i1.1 == 2)).bind fun t76_17 =>
                          some (t76_17, true))
                          ((q_impl_Net_link t9 i1.2 (i1.1 == 5)).bind fun t48_17 =>
                          some (t48_17, true))))))))
              (cond (i1.1 == 5)
                ((q_impl_in i1.2 0 (qw ((p0.2.1.length : Int) - 1))).bind fun t38_9 =>
                cond (!t38_9)
                  (some (t9, false))
                  (cond (i1.1 == 1)
                    ((q_impl_Net_speak t9 i1.2).bind fun t53_9 =>
                    some (t53_9, true))
                    (cond (i1.1 == 6)
                      ((qat p0.1 i1.2).bind fun x64_9 =>
                      (q_impl_Tick x64_9).bind fun t66_9 =>
                      (ix t9.1.length i1.2).bind fun j67_9 =>
                      (t9.1[j67_9]?).bind fun x_9 =>
                      some ((t9.1.set j67_9 t66_9, t9.2.1, t9.2.2), true))
                      (cond (i1.1 == 2)
                        (cond (i1.1 == 2)
                          ((q_impl_Net_arrive t9 i1.2 (i1.1 == 2)).bind fun t76_18 =>
                          some (t76_18, true))
                          ((q_impl_Net_link t9 i1.2 (i1.1 == 5)).bind fun t48_18 =>
                          some (t48_18, true)))
                        (cond (i1.1 == 3)
                          ((q_impl_Net_arrive t9 i1.2 (i1.1 == 2)).bind fun t76_19 =>
                          some (t76_19, true))
                          ((q_impl_Net_link t9 i1.2 (i1.1 == 5)).bind fun t48_19 =>
                          some (t48_19, true)))))))
                ((q_impl_in i1.2 0 (qw (0 - 1))).bind fun t38_10 =>
                cond (!t38_10)
                  (some (t9, false))
                  (cond (i1.1 == 1)
                    ((q_impl_Net_speak t9 i1.2).bind fun t53_10 =>
                    some (t53_10, true))
                    (cond (i1.1 == 6)
                      ((qat p0.1 i1.2).bind fun x64_10 =>
                      (q_impl_Tick x64_10).bind fun t66_10 =>
                      (ix t9.1.length i1.2).bind fun j67_10 =>
                      (t9.1[j67_10]?).bind fun x_10 =>
                      some ((t9.1.set j67_10 t66_10, t9.2.1, t9.2.2), true))
                      (cond (i1.1 == 2)
                        (cond (i1.1 == 2)
                          ((q_impl_Net_arrive t9 i1.2 (i1.1 == 2)).bind fun t76_20 =>
                          some (t76_20, true))
                          ((q_impl_Net_link t9 i1.2 (i1.1 == 5)).bind fun t48_20 =>
                          some (t48_20, true)))
                        (cond (i1.1 == 3)
                          ((q_impl_Net_arrive t9 i1.2 (i1.1 == 2)).bind fun t76_21 =>
                          some (t76_21, true))
                          ((q_impl_Net_link t9 i1.2 (i1.1 == 5)).bind fun t48_21 =>
                          some (t48_21, true))))))))))))
      (cond (i1.1 == 6)
        ((q_impl_in i1.2 0 (qw ((p0.1.length : Int) - 1))).bind fun t38_11 =>
        cond (!t38_11)
          (some (t9, false))
          (cond (i1.1 == 1)
            ((q_impl_Net_speak t9 i1.2).bind fun t53_11 =>
            some (t53_11, true))
            (cond (i1.1 == 6)
              ((qat p0.1 i1.2).bind fun x64_11 =>
              (q_impl_Tick x64_11).bind fun t66_11 =>
              (ix t9.1.length i1.2).bind fun j67_11 =>
              (t9.1[j67_11]?).bind fun x_11 =>
              some ((t9.1.set j67_11 t66_11, t9.2.1, t9.2.2), true))
              (cond (i1.1 == 2)
                (cond (i1.1 == 2)
                  ((q_impl_Net_arrive t9 i1.2 (i1.1 == 2)).bind fun t76_22 =>
                  some (t76_22, true))
                  ((q_impl_Net_link t9 i1.2 (i1.1 == 5)).bind fun t48_22 =>
                  some (t48_22, true)))
                (cond (i1.1 == 3)
                  ((q_impl_Net_arrive t9 i1.2 (i1.1 == 2)).bind fun t76_23 =>
                  some (t76_23, true))
                  ((q_impl_Net_link t9 i1.2 (i1.1 == 5)).bind fun t48_23 =>
                  some (t48_23, true)))))))
        (cond (i1.1 == 2)
          (cond (i1.1 == 2)
            ((q_impl_in i1.2 0 (qw ((p0.2.2.length : Int) - 1))).bind fun t38_12 =>
            cond (!t38_12)
              (some (t9, false))
              (cond (i1.1 == 1)
                ((q_impl_Net_speak t9 i1.2).bind fun t53_12 =>
                some (t53_12, true))
                (cond (i1.1 == 6)
                  ((qat p0.1 i1.2).bind fun x64_12 =>
                  (q_impl_Tick x64_12).bind fun t66_12 =>
                  (ix t9.1.length i1.2).bind fun j67_12 =>
                  (t9.1[j67_12]?).bind fun x_12 =>
                  some ((t9.1.set j67_12 t66_12, t9.2.1, t9.2.2), true))
                  (cond (i1.1 == 2)
                    (cond (i1.1 == 2)
                      ((q_impl_Net_arrive t9 i1.2 (i1.1 == 2)).bind fun t76_24 =>
                      some (t76_24, true))
                      ((q_impl_Net_link t9 i1.2 (i1.1 == 5)).bind fun t48_24 =>
                      some (t48_24, true)))
                    (cond (i1.1 == 3)
                      ((q_impl_Net_arrive t9 i1.2 (i1.1 == 2)).bind fun t76_25 =>
                      some (t76_25, true))
                      ((q_impl_Net_link t9 i1.2 (i1.1 == 5)).bind fun t48_25 =>
                      some (t48_25, true)))))))
            (cond (i1.1 == 4)
              (cond (i1.1 == 4)
                ((q_impl_in i1.2 0 (qw ((p0.2.1.length : Int) - 1))).bind fun t38_13 =>
                cond (!t38_13)
                  (some (t9, false))
                  (cond (i1.1 == 1)
                    ((q_impl_Net_speak t9 i1.2).bind fun t53_13 =>
                    some (t53_13, true))
                    (cond (i1.1 == 6)
                      ((qat p0.1 i1.2).bind fun x64_13 =>
                      (q_impl_Tick x64_13).bind fun t66_13 =>
                      (ix t9.1.length i1.2).bind fun j67_13 =>
                      (t9.1[j67_13]?).bind fun x_13 =>
                      some ((t9.1.set j67_13 t66_13, t9.2.1, t9.2.2), true))
                      (cond (i1.1 == 2)
                        (cond (i1.1 == 2)
                          ((q_impl_Net_arrive t9 i1.2 (i1.1 == 2)).bind fun t76_26 =>
                          some (t76_26, true))
                          ((q_impl_Net_link t9 i1.2 (i1.1 == 5)).bind fun t48_26 =>
                          some (t48_26, true)))
                        (cond (i1.1 == 3)
                          ((q_impl_Net_arrive t9 i1.2 (i1.1 == 2)).bind fun t76_27 =>
                          some (t76_27, true))
                          ((q_impl_Net_link t9 i1.2 (i1.1 == 5)).bind fun t48_27 =>
                          some (t48_27, true)))))))
                ((q_impl_in i1.2 0 (qw (0 - 1))).bind fun t38_14 =>
                cond (!t38_14)
                  (some (t9, false))
                  (cond (i1.1 == 1)
                    ((q_impl_Net_speak t9 i1.2).bind fun t53_14 =>
                    some (t53_14, true))
                    (cond (i1.1 == 6)
                      ((qat p0.1 i1.2).bind fun x64_14 =>
                      (q_impl_Tick x64_14).bind fun t66_14 =>
                      (ix t9.1.length i1.2).bind fun j67_14 =>
                      (t9.1[j67_14]?).bind fun x_14 =>
                      some ((t9.1.set j67_14 t66_14, t9.2.1, t9.2.2), true))
                      (cond (i1.1 == 2)
                        (cond (i1.1 == 2)
                          ((q_impl_Net_arrive t9 i1.2 (i1.1 == 2)).bind fun t76_28 =>
                          some (t76_28, true))
                          ((q_impl_Net_link t9 i1.2 (i1.1 == 5)).bind fun t48_28 =>
                          some (t48_28, true)))
                        (cond (i1.1 == 3)
                          ((q_impl_Net_arrive t9 i1.2 (i1.1 == 2)).bind fun t76_29 =>
                          some (t76_29, true))
                          ((q_impl_Net_link t9 i1.2 (i1.1 == 5)).bind fun t48_29 =>
                          some (t48_29, true))))))))
              (cond (i1.1 == 5)
                ((q_impl_in i1.2 0 (qw ((p0.2.1.length : Int) - 1))).bind fun t38_15 =>
                cond (!t38_15)
                  (some (t9, false))
                  (cond (i1.1 == 1)
                    ((q_impl_Net_speak t9 i1.2).bind fun t53_15 =>
                    some (t53_15, true))
                    (cond (i1.1 == 6)
                      ((qat p0.1 i1.2).bind fun x64_15 =>
                      (q_impl_Tick x64_15).bind fun t66_15 =>
                      (ix t9.1.length i1.2).bind fun j67_15 =>
                      (t9.1[j67_15]?).bind fun x_15 =>
                      some ((t9.1.set j67_15 t66_15, t9.2.1, t9.2.2), true))
                      (cond (i1.1 == 2)
                        (cond (i1.1 == 2)
                          ((q_impl_Net_arrive t9 i1.2 (i1.1 == 2)).bind fun t76_30 =>
                          some (t76_30, true))
                          ((q_impl_Net_link t9 i1.2 (i1.1 == 5)).bind fun t48_30 =>
                          some (t48_30, true)))
                        (cond (i1.1 == 3)
                          ((q_impl_Net_arrive t9 i1.2 (i1.1 == 2)).bind fun t76_31 =>
                          some (t76_31, true))
                          ((q_impl_Net_link t9 i1.2 (i1.1 == 5)).bind fun t48_31 =>
                          some (t48_31, true)))))))
                ((q_impl_in i1.2 0 (qw (0 - 1))).bind fun t38_16 =>
                cond (!t38_16)
                  (some (t9, false))
                  (cond (i1.1 == 1)
                    ((q_impl_Net_speak t9 i1.2).bind fun t53_16 =>
                    some (t53_16, true))
                    (cond (i1.1 == 6)
                      ((qat p0.1 i1.2).bind fun x64_16 =>
                      (q_impl_Tick x64_16).bind fun t66_16 =>
                      (ix t9.1.length i1.2).bind fun j67_16 =>
                      (t9.1[j67_16]?).bind fun x_16 =>
                      some ((t9.1.set j67_16 t66_16, t9.2.1, t9.2.2), true))
                      (cond (i1.1 == 2)
                        (cond (i1.1 == 2)
                          ((q_impl_Net_arrive t9 i1.2 (i1.1 == 2)).bind fun t76_32 =>
                          some (t76_32, true))
                          ((q_impl_Net_link t9 i1.2 (i1.1 == 5)).bind fun t48_32 =>
                          some (t48_32, true)))
                        (cond (i1.1 == 3)
                          ((q_impl_Net_arrive t9 i1.2 (i1.1 == 2)).bind fun t76_33 =>
                          some (t76_33, true))
                          ((q_impl_Net_link t9 i1.2 (i1.1 == 5)).bind fun t48_33 =>
                          some (t48_33, true))))))))))
          (cond (i1.1 == 3)
            ((q_impl_in i1.2 0 (qw ((p0.2.2.length : Int) - 1))).bind fun t38_17 =>
            cond (!t38_17)
              (some (t9, false))
              (cond (i1.1 == 1)
                ((q_impl_Net_speak t9 i1.2).bind fun t53_17 =>
                some (t53_17, true))
                (cond (i1.1 == 6)
                  ((qat p0.1 i1.2).bind fun x64_17 =>
                  (q_impl_Tick x64_17).bind fun t66_17 =>
                  (ix t9.1.length i1.2).bind fun j67_17 =>
                  (t9.1[j67_17]?).bind fun x_17 =>
                  some ((t9.1.set j67_17 t66_17, t9.2.1, t9.2.2), true))
                  (cond (i1.1 == 2)
                    (cond (i1.1 == 2)
                      ((q_impl_Net_arrive t9 i1.2 (i1.1 == 2)).bind fun t76_34 =>
                      some (t76_34, true))
                      ((q_impl_Net_link t9 i1.2 (i1.1 == 5)).bind fun t48_34 =>
                      some (t48_34, true)))
                    (cond (i1.1 == 3)
                      ((q_impl_Net_arrive t9 i1.2 (i1.1 == 2)).bind fun t76_35 =>
                      some (t76_35, true))
                      ((q_impl_Net_link t9 i1.2 (i1.1 == 5)).bind fun t48_35 =>
                      some (t48_35, true)))))))
            (cond (i1.1 == 4)
              (cond (i1.1 == 4)
                ((q_impl_in i1.2 0 (qw ((p0.2.1.length : Int) - 1))).bind fun t38_18 =>
                cond (!t38_18)
                  (some (t9, false))
                  (cond (i1.1 == 1)
                    ((q_impl_Net_speak t9 i1.2).bind fun t53_18 =>
                    some (t53_18, true))
                    (cond (i1.1 == 6)
                      ((qat p0.1 i1.2).bind fun x64_18 =>
                      (q_impl_Tick x64_18).bind fun t66_18 =>
                      (ix t9.1.length i1.2).bind fun j67_18 =>
                      (t9.1[j67_18]?).bind fun x_18 =>
                      some ((t9.1.set j67_18 t66_18, t9.2.1, t9.2.2), true))
                      (cond (i1.1 == 2)
                        (cond (i1.1 == 2)
                          ((q_impl_Net_arrive t9 i1.2 (i1.1 == 2)).bind fun t76_36 =>
                          some (t76_36, true))
                          ((q_impl_Net_link t9 i1.2 (i1.1 == 5)).bind fun t48_36 =>
                          some (t48_36, true)))
                        (cond (i1.1 == 3)
                          ((q_impl_Net_arrive t9 i1.2 (i1.1 == 2)).bind fun t76_37 =>
                          some (t76_37, true))
                          ((q_impl_Net_link t9 i1.2 (i1.1 == 5)).bind fun t48_37 =>
                          some (t48_37, true)))))))
                ((q_impl_in i1.2 0 (qw (0 - 1))).bind fun t38_19 =>
                cond (!t38_19)
                  (some (t9, false))
                  (cond (i1.1 == 1)
                    ((q_impl_Net_speak t9 i1.2).bind fun t53_19 =>
                    some (t53_19, true))
                    (cond (i1.1 == 6)
                      ((qat p0.1 i1.2).bind fun x64_19 =>
                      (q_impl_Tick x64_19).bind fun t66_19 =>
                      (ix t9.1.length i1.2).bind fun j67_19 =>
                      (t9.1[j67_19]?).bind fun x_19 =>
                      some ((t9.1.set j67_19 t66_19, t9.2.1, t9.2.2), true))
                      (cond (i1.1 == 2)
                        (cond (i1.1 == 2)
                          ((q_impl_Net_arrive t9 i1.2 (i1.1 == 2)).bind fun t76_38 =>
                          some (t76_38, true))
                          ((q_impl_Net_link t9 i1.2 (i1.1 == 5)).bind fun t48_38 =>
                          some (t48_38, true)))
                        (cond (i1.1 == 3)
                          ((q_impl_Net_arrive t9 i1.2 (i1.1 == 2)).bind fun t76_39 =>
                          some (t76_39, true))
                          ((q_impl_Net_link t9 i1.2 (i1.1 == 5)).bind fun t48_39 =>
                          some (t48_39, true))))))))
              (cond (i1.1 == 5)
                ((q_impl_in i1.2 0 (qw ((p0.2.1.length : Int) - 1))).bind fun t38_20 =>
                cond (!t38_20)
                  (some (t9, false))
                  (cond (i1.1 == 1)
                    ((q_impl_Net_speak t9 i1.2).bind fun t53_20 =>
                    some (t53_20, true))
                    (cond (i1.1 == 6)
                      ((qat p0.1 i1.2).bind fun x64_20 =>
                      (q_impl_Tick x64_20).bind fun t66_20 =>
                      (ix t9.1.length i1.2).bind fun j67_20 =>
                      (t9.1[j67_20]?).bind fun x_20 =>
                      some ((t9.1.set j67_20 t66_20, t9.2.1, t9.2.2), true))
                      (cond (i1.1 == 2)
                        (cond (i1.1 == 2)
                          ((q_impl_Net_arrive t9 i1.2 (i1.1 == 2)).bind fun t76_40 =>
                          some (t76_40, true))
                          ((q_impl_Net_link t9 i1.2 (i1.1 == 5)).bind fun t48_40 =>
                          some (t48_40, true)))
                        (cond (i1.1 == 3)
                          ((q_impl_Net_arrive t9 i1.2 (i1.1 == 2)).bind fun t76_41 =>
                          some (t76_41, true))
                          ((q_impl_Net_link t9 i1.2 (i1.1 == 5)).bind fun t48_41 =>
                          some (t48_41, true)))))))
                ((q_impl_in i1.2 0 (qw (0 - 1))).bind fun t38_21 =>
                cond (!t38_21)
                  (some (t9, false))
                  (cond (i1.1 == 1)
                    ((q_impl_Net_speak t9 i1.2).bind fun t53_21 =>
                    some (t53_21, true))
                    (cond (i1.1 == 6)
                      ((qat p0.1 i1.2).bind fun x64_21 =>
                      (q_impl_Tick x64_21).bind fun t66_21 =>
                      (ix t9.1.length i1.2).bind fun j67_21 =>
                      (t9.1[j67_21]?).bind fun x_21 =>
                      some ((t9.1.set j67_21 t66_21, t9.2.1, t9.2.2), true))
                      (cond (i1.1 == 2)
                        (cond (i1.1 == 2)
                          ((q_impl_Net_arrive t9 i1.2 (i1.1 == 2)).bind fun t76_42 =>
                          some (t76_42, true))
                          ((q_impl_Net_link t9 i1.2 (i1.1 == 5)).bind fun t48_42 =>
                          some (t48_42, true)))
                        (cond (i1.1 == 3)
                          ((q_impl_Net_arrive t9 i1.2 (i1.1 == 2)).bind fun t76_43 =>
                          some (t76_43, true))
                          ((q_impl_Net_link t9 i1.2 (i1.1 == 5)).bind fun t48_43 =>
                          some (t48_43, true)))))))))))))
theorem q_impl_Step_le (p0 : Net) (i1 : Event) : Le' (q_impl_Step p0 i1) (impl_Step p0 i1) := by
  unfold q_impl_Step impl_Step
  try simp only [qw_eq, qlt_eq, qat_eq, qle_eq]
  repeat' (first | with_reducible exact q_impl_copyNet_le _ | with_reducible exact q_impl_NetOk_le _ | with_reducible exact q_impl_in_le _ _ _ | with_reducible exact q_impl_Net_speak_le _ _ | with_reducible exact q_impl_Tick_le _ | with_reducible exact q_impl_Net_arrive_le _ _ _ | with_reducible exact q_impl_Net_link_le _ _ _ | with_reducible refine Le'.bind ?_ fun _ => ?_ | with_reducible refine Le'.cond ?_ ?_ | with_reducible refine Le'.loop fun _ => ?_ | with_reducible refine Le'.sum (fun _ => ?_) (fun _ => ?_) _ | with_reducible exact Le'.refl _)
def q_impl_UpLinks_l0 (n0 : Net) (t8 : Int) (out3 : List Int) : Option ((Int × List Int) ⊕ (List Int)) :=
  cond ((qlt (t8) ((n0.2.1.length : Int))))
    ((q_impl_LinkUp n0 t8).bind fun t13 =>
    cond t13
      ((app out3 [t8]).bind fun zs17 =>
      some (.inl (qw (t8 + 1), zs17)))
      (some (.inl (qw (t8 + 1), out3))))
    (some (.inr out3))
theorem q_impl_UpLinks_l0_le (n0 : Net) (t8 : Int) (out3 : List Int) : Le' (q_impl_UpLinks_l0 n0 t8 out3) (impl_UpLinks_l0 n0 t8 out3) := by
  unfold q_impl_UpLinks_l0 impl_UpLinks_l0
  try simp only [qw_eq, qlt_eq, qat_eq, qle_eq]
  repeat' (first | with_reducible exact q_impl_LinkUp_le _ _ | with_reducible refine Le'.bind ?_ fun _ => ?_ | with_reducible refine Le'.cond ?_ ?_ | with_reducible refine Le'.loop fun _ => ?_ | with_reducible refine Le'.sum (fun _ => ?_) (fun _ => ?_) _ | with_reducible exact Le'.refl _)
def q_impl_UpLinks (n0 : Net) : Option (List Int) :=
  (qloop (fun z => q_impl_UpLinks_l0 n0 z.1 z.2) (0, [])).bind fun d =>
  some d
theorem q_impl_UpLinks_le (n0 : Net) : Le' (q_impl_UpLinks n0) (impl_UpLinks n0) := by
  unfold q_impl_UpLinks impl_UpLinks
  try simp only [qw_eq, qlt_eq, qat_eq, qle_eq]
  repeat' (first | with_reducible exact q_impl_UpLinks_l0_le _ _ _ | with_reducible refine Le'.bind ?_ fun _ => ?_ | with_reducible refine Le'.cond ?_ ?_ | with_reducible refine Le'.loop fun _ => ?_ | with_reducible refine Le'.sum (fun _ => ?_) (fun _ => ?_) _ | with_reducible exact Le'.refl _)
def q_impl_Joined_l2 (p0 : Net) (a2 : List Int) (t8_1 : Bool) (t32 : Int) (l_1 : List Bool) : Option ((Bool × Int × List Bool) ⊕ (Bool × List Bool)) :=
  cond ((qlt (t32) ((a2.length : Int))))
    ((qat a2 t32).bind fun x34 =>
    (q_impl_in x34 0 (qw ((p0.2.1.length : Int) - 1))).bind fun t41 =>
    cond (!t41)
      (some (.inl (t8_1, qw (t32 + 1), l_1)))
      ((qat p0.2.1 x34).bind fun x46 =>
      (q_impl_in x46.1 0 (qw ((l_1.length : Int) - 1))).bind fun t53 =>
      (cond t53
        ((q_impl_in x46.2.2.1 0 (qw ((l_1.length : Int) - 1))).bind fun t60 =>
        some t60)
        (some false)).bind fun t61 =>
      (cond t61
        ((ix l_1.length x46.1).bind fun j66 =>
        (l_1[j66]?).bind fun x67 =>
        (ix l_1.length x46.2.2.1).bind fun j71 =>
        (l_1[j71]?).bind fun x72 =>
        some (!(x67 == x72)))
        (some false)).bind fun t74 =>
      cond t74
        ((ix l_1.length x46.1).bind fun j81 =>
        (l_1[j81]?).bind fun x_1 =>
        (ix (l_1.set j81 true).length x46.2.2.1).bind fun j82 =>
        ((l_1.set j81 true)[j82]?).bind fun x_2 =>
        some (.inl (true, qw (t32 + 1), (l_1.set j81 true).set j82 true)))
        (some (.inl (t8_1, qw (t32 + 1), l_1)))))
    (some (.inr (t8_1, l_1)))
theorem q_impl_Joined_l2_le (p0 : Net) (a2 : List Int) (t8_1 : Bool) (t32 : Int) (l_1 : List Bool) : Le' (q_impl_Joined_l2 p0 a2 t8_1 t32 l_1) (impl_Joined_l2 p0 a2 t8_1 t32 l_1) := by
  unfold q_impl_Joined_l2 impl_Joined_l2
  try simp only [qw_eq, qlt_eq, qat_eq, qle_eq]
  repeat' (first | with_reducible exact q_impl_in_le _ _ _ | with_reducible refine Le'.bind ?_ fun _ => ?_ | with_reducible refine Le'.cond ?_ ?_ | with_reducible refine Le'.loop fun _ => ?_ | with_reducible refine Le'.sum (fun _ => ?_) (fun _ => ?_) _ | with_reducible exact Le'.refl _)
def q_impl_Joined_l0 (p0 : Net) (a2 : List Int) (t8 : Bool) (l : List Bool) : Option ((Bool × List Bool) ⊕ (List Bool)) :=
  cond t8
    ((qloop (fun z => q_impl_Joined_l2 p0 a2 z.1 z.2.1 z.2.2) (false, 0, l)).bind fun d =>
    some (.inl d))
    (some (.inr l))
theorem q_impl_Joined_l0_le (p0 : Net) (a2 : List Int) (t8 : Bool) (l : List Bool) : Le' (q_impl_Joined_l0 p0 a2 t8 l) (impl_Joined_l0 p0 a2 t8 l) := by
  unfold q_impl_Joined_l0 impl_Joined_l0
  try simp only [qw_eq, qlt_eq, qat_eq, qle_eq]
  repeat' (first | with_reducible exact q_impl_Joined_l2_le _ _ _ _ _ | with_reducible refine Le'.bind ?_ fun _ => ?_ | with_reducible refine Le'.cond ?_ ?_ | with_reducible refine Le'.loop fun _ => ?_ | with_reducible refine Le'.sum (fun _ => ?_) (fun _ => ?_) _ | with_reducible exact Le'.refl _)
def q_impl_Joined_l4 (d_1 : List Bool) (t86 : Int) (t12 : List Int) : Option ((Int × List Int) ⊕ (List Int)) :=
  cond ((qlt (t86) ((d_1.length : Int))))
    ((ix d_1.length t86).bind fun j89 =>
    (d_1[j89]?).bind fun x90 =>
    cond x90
      ((app t12 [t86]).bind fun zs95 =>
      some (.inl (qw (t86 + 1), zs95)))
      (some (.inl (qw (t86 + 1), t12))))
    (some (.inr t12))
theorem q_impl_Joined_l4_le (d_1 : List Bool) (t86 : Int) (t12 : List Int) : Le' (q_impl_Joined_l4 d_1 t86 t12) (impl_Joined_l4 d_1 t86 t12) := by
  unfold q_impl_Joined_l4 impl_Joined_l4
  try simp only [qw_eq, qlt_eq, qat_eq, qle_eq]
  repeat' (first | with_reducible refine Le'.bind ?_ fun _ => ?_ | with_reducible refine Le'.cond ?_ ?_ | with_reducible refine Le'.loop fun _ => ?_ | with_reducible refine Le'.sum (fun _ => ?_) (fun _ => ?_) _ | with_reducible exact Le'.refl _)
def q_impl_Joined (p0 : Net) (i1 : Int) (a2 : List Int) : Option (List Int) :=
  (q_impl_in i1 0 (qw ((p0.1.length : Int) - 1))).bind fun t20 =>
  cond (!t20)
    (some [])
    ((mkLen (p0.1.length : Int)).bind fun n =>
    (ix (List.replicate n (false : Bool)).length i1).bind fun j28 =>
    ((List.replicate n (false : Bool))[j28]?).bind fun x =>
    (qloop (fun z => q_impl_Joined_l0 p0 a2 z.1 z.2) (true, (List.replicate n (false : Bool)).set j28 true)).bind fun d_1 =>
    (qloop (fun z => q_impl_Joined_l4 d_1 z.1 z.2) (0, [])).bind fun d_2 =>
    some d_2)
theorem q_impl_Joined_le (p0 : Net) (i1 : Int) (a2 : List Int) : Le' (q_impl_Joined p0 i1 a2) (impl_Joined p0 i1 a2) := by
  unfold q_impl_Joined impl_Joined
  try simp only [qw_eq, qlt_eq, qat_eq, qle_eq]
  repeat' (first | with_reducible exact q_impl_in_le _ _ _ | with_reducible exact q_impl_Joined_l0_le _ _ _ _ | with_reducible exact q_impl_Joined_l4_le _ _ _ | with_reducible refine Le'.bind ?_ fun _ => ?_ | with_reducible refine Le'.cond ?_ ?_ | with_reducible refine Le'.loop fun _ => ?_ | with_reducible refine Le'.sum (fun _ => ?_) (fun _ => ?_) _ | with_reducible exact Le'.refl _)
def q_impl_rootAt_l0 (n0 : Net) (t12 : List Int) (root5 : Int) (t14 : Int) : Option ((Int × Int) ⊕ Int) :=
  cond ((qlt (t14) ((t12.length : Int))))
    ((ix t12.length t14).bind fun j16 =>
    (t12[j16]?).bind fun x17 =>
    (cond ((qlt (root5) (0)))
      (some true)
      ((qat n0.1 x17).bind fun x24 =>
      (qat n0.1 root5).bind fun x30 =>
      some ((qlt (x24.1) (x30.1))))).bind fun t34 =>
    cond t34
      (some (.inl (x17, qw (t14 + 1))))
      (some (.inl (root5, qw (t14 + 1)))))
    (some (.inr root5))
theorem q_impl_rootAt_l0_le (n0 : Net) (t12 : List Int) (root5 : Int) (t14 : Int) : Le' (q_impl_rootAt_l0 n0 t12 root5 t14) (impl_rootAt_l0 n0 t12 root5 t14) := by
  unfold q_impl_rootAt_l0 impl_rootAt_l0
  try simp only [qw_eq, qlt_eq, qat_eq, qle_eq]
  repeat' (first | with_reducible refine Le'.bind ?_ fun _ => ?_ | with_reducible refine Le'.cond ?_ ?_ | with_reducible refine Le'.loop fun _ => ?_ | with_reducible refine Le'.sum (fun _ => ?_) (fun _ => ?_) _ | with_reducible exact Le'.refl _)
def q_impl_rootAt (n0 : Net) (b1 : Int) : Option Int :=
  (q_impl_UpLinks n0).bind fun t11 =>
  (q_impl_Joined n0 b1 t11).bind fun t12 =>
  (qloop (fun z => q_impl_rootAt_l0 n0 t12 z.1 z.2) ((-1), 0)).bind fun d =>
  some d
theorem q_impl_rootAt_le (n0 : Net) (b1 : Int) : Le' (q_impl_rootAt n0 b1) (impl_rootAt n0 b1) := by
  unfold q_impl_rootAt impl_rootAt
  try simp only [qw_eq, qlt_eq, qat_eq, qle_eq]
  repeat' (first | with_reducible exact q_impl_UpLinks_le _ | with_reducible exact q_impl_Joined_le _ _ _ | with_reducible exact q_impl_rootAt_l0_le _ _ _ _ | with_reducible refine Le'.bind ?_ fun _ => ?_ | with_reducible refine Le'.cond ?_ ?_ | with_reducible refine Le'.loop fun _ => ?_ | with_reducible refine Le'.sum (fun _ => ?_) (fun _ => ?_) _ | with_reducible exact Le'.refl _)
def q_impl_DistTrue_1 (from0 : Int) (to1 : Int) (port2 : Int) (a3 : List Int) (a4 : Net) : Option ((List Int) × Net) :=
  (ix a3.length from0).bind fun j11 =>
  (a3[j11]?).bind fun x12 =>
  cond ((qlt (x12) (0)))
    (some (a3, a4))
    ((ix a3.length from0).bind fun j16 =>
    (a3[j16]?).bind fun x17 =>
    (qat a4.1 to1).bind fun x21 =>
    (qat x21.2.2.1 port2).bind fun x25 =>
    (ix a3.length to1).bind fun j31 =>
    (a3[j31]?).bind fun x32 =>
    (cond ((qlt (x32) (0)))
      (some true)
      ((ix a3.length to1).bind fun j38 =>
      (a3[j38]?).bind fun x39 =>
      some ((qlt ((qw (x17 + x25.2.1))) (x39))))).bind fun t41 =>
    cond t41
      ((ix a3.length to1).bind fun j45 =>
      (a3[j45]?).bind fun x =>
      some (a3.set j45 (qw (x17 + x25.2.1)), a4))
      (some (a3, a4)))
theorem q_impl_DistTrue_1_le (from0 : Int) (to1 : Int) (port2 : Int) (a3 : List Int) (a4 : Net) : Le' (q_impl_DistTrue_1 from0 to1 port2 a3 a4) (impl_DistTrue_1 from0 to1 port2 a3 a4) := by
  unfold q_impl_DistTrue_1 impl_DistTrue_1
  try simp only [qw_eq, qlt_eq, qat_eq, qle_eq]
  repeat' (first | with_reducible refine Le'.bind ?_ fun _ => ?_ | with_reducible refine Le'.cond ?_ ?_ | with_reducible refine Le'.loop fun _ => ?_ | with_reducible refine Le'.sum (fun _ => ?_) (fun _ => ?_) _ | with_reducible exact Le'.refl _)
def q_impl_DistTrue_l0 (n : Nat) (t23 : Int) (l : List Int) : Option ((Int × List Int) ⊕ (List Int)) :=
  cond ((qlt (t23) (((List.replicate n (0 : Int)).length : Int))))
    ((ix l.length t23).bind fun j28 =>
    (l[j28]?).bind fun x =>
    some (.inl (qw (t23 + 1), l.set j28 (-1))))
    (some (.inr l))
theorem q_impl_DistTrue_l0_le (n : Nat) (t23 : Int) (l : List Int) : Le' (q_impl_DistTrue_l0 n t23 l) (impl_DistTrue_l0 n t23 l) := by
  unfold q_impl_DistTrue_l0 impl_DistTrue_l0
  try simp only [qw_eq, qlt_eq, qat_eq, qle_eq]
  repeat' (first | with_reducible refine Le'.bind ?_ fun _ => ?_ | with_reducible refine Le'.cond ?_ ?_ | with_reducible refine Le'.loop fun _ => ?_ | with_reducible refine Le'.sum (fun _ => ?_) (fun _ => ?_) _ | with_reducible exact Le'.refl _)
def q_impl_DistTrue_l4 (t40 : List Int) (t42 : Int) (b0_2 : List Bridge) (b1_1 : List Link) (b2_1 : List Say) (b0_3 : List Int) : Option ((Int × List Bridge × List Link × List Say × List Int) ⊕ (List Bridge × List Link × List Say × List Int)) :=
  cond ((qlt (t42) ((t40.length : Int))))
    ((ix t40.length t42).bind fun j44 =>
    (t40[j44]?).bind fun x45 =>
    (qat b1_1 x45).bind fun x49 =>
    (q_impl_DistTrue_1 x49.1 x49.2.2.1 x49.2.2.2 b0_3 (b0_2, b1_1, b2_1)).bind fun t58 =>
    (q_impl_DistTrue_1 x49.2.2.1 x49.1 x49.2.1 t58.1 t58.2).bind fun t66 =>
    some (.inl (qw (t42 + 1), t66.2.1, t66.2.2.1, t66.2.2.2, t66.1)))
    (some (.inr (b0_2, b1_1, b2_1, b0_3)))
theorem q_impl_DistTrue_l4_le (t40 : List Int) (t42 : Int) (b0_2 : List Bridge) (b1_1 : List Link) (b2_1 : List Say) (b0_3 : List Int) : Le' (q_impl_DistTrue_l4 t40 t42 b0_2 b1_1 b2_1 b0_3) (impl_DistTrue_l4 t40 t42 b0_2 b1_1 b2_1 b0_3) := by
  unfold q_impl_DistTrue_l4 impl_DistTrue_l4
  try simp only [qw_eq, qlt_eq, qat_eq, qle_eq]
  repeat' (first | with_reducible exact q_impl_DistTrue_1_le _ _ _ _ _ | with_reducible refine Le'.bind ?_ fun _ => ?_ | with_reducible refine Le'.cond ?_ ?_ | with_reducible refine Le'.loop fun _ => ?_ | with_reducible refine Le'.sum (fun _ => ?_) (fun _ => ?_) _ | with_reducible exact Le'.refl _)
def q_impl_DistTrue_l2 (p0 : Net) (t37 : Int) (b0 : List Bridge) (b1 : List Link) (b2 : List Say) (b0_1 : List Int) : Option ((Int × List Bridge × List Link × List Say × List Int) ⊕ (List Bridge × List Link × List Say × List Int)) :=
  cond ((qlt (t37) ((p0.1.length : Int))))
    ((q_impl_UpLinks (b0, b1, b2)).bind fun t40 =>
    (qloop (fun z => q_impl_DistTrue_l4 t40 z.1 z.2.1 z.2.2.1 z.2.2.2.1 z.2.2.2.2) (0, b0, b1, b2, b0_1)).bind fun d_1 =>
    some (.inl (qw (t37 + 1), d_1.1, d_1.2.1, d_1.2.2.1, d_1.2.2.2)))
    (some (.inr (b0, b1, b2, b0_1)))
theorem q_impl_DistTrue_l2_le (p0 : Net) (t37 : Int) (b0 : List Bridge) (b1 : List Link) (b2 : List Say) (b0_1 : List Int) : Le' (q_impl_DistTrue_l2 p0 t37 b0 b1 b2 b0_1) (impl_DistTrue_l2 p0 t37 b0 b1 b2 b0_1) := by
  unfold q_impl_DistTrue_l2 impl_DistTrue_l2
  try simp only [qw_eq, qlt_eq, qat_eq, qle_eq]
  repeat' (first | with_reducible exact q_impl_UpLinks_le _ | with_reducible exact q_impl_DistTrue_l4_le _ _ _ _ _ _ | with_reducible refine Le'.bind ?_ fun _ => ?_ | with_reducible refine Le'.cond ?_ ?_ | with_reducible refine Le'.loop fun _ => ?_ | with_reducible refine Le'.sum (fun _ => ?_) (fun _ => ?_) _ | with_reducible exact Le'.refl _)
def q_impl_DistTrue (p0 : Net) (i1 : Int) : Option Int :=
  (q_impl_rootAt p0 i1).bind fun t14 =>
  cond ((qlt (t14) (0)))
    (some (-1))
    ((mkLen (p0.1.length : Int)).bind fun n =>
    (qloop (fun z => q_impl_DistTrue_l0 n z.1 z.2) (0, List.replicate n (0 : Int))).bind fun d =>
    (ix d.length t14).bind fun j32 =>
    (d[j32]?).bind fun x_1 =>
    (qloop (fun z => q_impl_DistTrue_l2 p0 z.1 z.2.1 z.2.2.1 z.2.2.2.1 z.2.2.2.2) (0, p0.1, p0.2.1, p0.2.2, d.set j32 0)).bind fun d_2 =>
    (ix d_2.2.2.2.length i1).bind fun j71 =>
    (d_2.2.2.2[j71]?).bind fun x72 =>
    some x72)
theorem q_impl_DistTrue_le (p0 : Net) (i1 : Int) : Le' (q_impl_DistTrue p0 i1) (impl_DistTrue p0 i1) := by
  unfold q_impl_DistTrue impl_DistTrue
  try simp only [qw_eq, qlt_eq, qat_eq, qle_eq]
  repeat' (first | with_reducible exact q_impl_rootAt_le _ _ | with_reducible exact q_impl_DistTrue_l0_le _ _ _ | with_reducible exact q_impl_DistTrue_l2_le _ _ _ _ _ _ | with_reducible refine Le'.bind ?_ fun _ => ?_ | with_reducible refine Le'.cond ?_ ?_ | with_reducible refine Le'.loop fun _ => ?_ | with_reducible refine Le'.sum (fun _ => ?_) (fun _ => ?_) _ | with_reducible exact Le'.refl _)
def q_laws_has_l0 (l0 : List Int) (n1 : Int) (i5 : Int) : Option (Int ⊕ (Unit ⊕ Bool)) :=
  cond ((qlt (i5) ((l0.length : Int))))
    ((qat l0 i5).bind fun x14 =>
    cond (x14 == n1) (some (.inr (.inr true))) (some (.inl (qw (i5 + 1)))))
    (some (.inr (.inl ())))
theorem q_laws_has_l0_le (l0 : List Int) (n1 : Int) (i5 : Int) : Le' (q_laws_has_l0 l0 n1 i5) (laws_has_l0 l0 n1 i5) := by
  unfold q_laws_has_l0 laws_has_l0
  try simp only [qw_eq, qlt_eq, qat_eq, qle_eq]
  repeat' (first | with_reducible refine Le'.bind ?_ fun _ => ?_ | with_reducible refine Le'.cond ?_ ?_ | with_reducible refine Le'.loop fun _ => ?_ | with_reducible refine Le'.sum (fun _ => ?_) (fun _ => ?_) _ | with_reducible exact Le'.refl _)
def q_laws_has (l0 : List Int) (n1 : Int) : Option Bool :=
  (qloop (fun z => q_laws_has_l0 l0 n1 z) 0).bind (Sum.elim (fun d =>
    some false) (fun r => some r))
theorem q_laws_has_le (l0 : List Int) (n1 : Int) : Le' (q_laws_has l0 n1) (laws_has l0 n1) := by
  unfold q_laws_has laws_has
  try simp only [qw_eq, qlt_eq, qat_eq, qle_eq]
  repeat' (first | with_reducible exact q_laws_has_l0_le _ _ _ | with_reducible refine Le'.bind ?_ fun _ => ?_ | with_reducible refine Le'.cond ?_ ?_ | with_reducible refine Le'.loop fun _ => ?_ | with_reducible refine Le'.sum (fun _ => ?_) (fun _ => ?_) _ | with_reducible exact Le'.refl _)
def q_impl_OneSpeaks_l0 (n0 : Net) (t9 : List Int) (t11 : Int) : Option (Int ⊕ (Unit ⊕ Bool)) :=
  cond ((qlt (t11) ((t9.length : Int))))
    ((ix t9.length t11).bind fun j13 =>
    (t9[j13]?).bind fun x14 =>
    (qat n0.2.1 x14).bind fun x18 =>
    (qat n0.1 x18.1).bind fun x24 =>
    (qat n0.1 x18.1).bind fun x31 =>
    (q_impl_RoleOf x24.1 x31.2.2.1 x18.2.1).bind fun t36 =>
    (qat n0.1 x18.2.2.1).bind fun x41 =>
    (qat n0.1 x18.2.2.1).bind fun x48 =>
    (q_impl_RoleOf x41.1 x48.2.2.1 x18.2.2.2).bind fun t53 =>
    cond ((t36 == 2) == (t53 == 2)) (some (.inr (.inr false))) (some (.inl (qw (t11 + 1)))))
    (some (.inr (.inl ())))
theorem q_impl_OneSpeaks_l0_le (n0 : Net) (t9 : List Int) (t11 : Int) : Le' (q_impl_OneSpeaks_l0 n0 t9 t11) (impl_OneSpeaks_l0 n0 t9 t11) := by
  unfold q_impl_OneSpeaks_l0 impl_OneSpeaks_l0
  try simp only [qw_eq, qlt_eq, qat_eq, qle_eq]
  repeat' (first | with_reducible exact q_impl_RoleOf_le _ _ _ | with_reducible refine Le'.bind ?_ fun _ => ?_ | with_reducible refine Le'.cond ?_ ?_ | with_reducible refine Le'.loop fun _ => ?_ | with_reducible refine Le'.sum (fun _ => ?_) (fun _ => ?_) _ | with_reducible exact Le'.refl _)
def q_impl_OneSpeaks (n0 : Net) : Option Bool :=
  (q_impl_UpLinks n0).bind fun t9 =>
  (qloop (fun z => q_impl_OneSpeaks_l0 n0 t9 z) 0).bind (Sum.elim (fun d =>
    some true) (fun r => some r))
theorem q_impl_OneSpeaks_le (n0 : Net) : Le' (q_impl_OneSpeaks n0) (impl_OneSpeaks n0) := by
  unfold q_impl_OneSpeaks impl_OneSpeaks
  try simp only [qw_eq, qlt_eq, qat_eq, qle_eq]
  repeat' (first | with_reducible exact q_impl_UpLinks_le _ | with_reducible exact q_impl_OneSpeaks_l0_le _ _ _ | with_reducible refine Le'.bind ?_ fun _ => ?_ | with_reducible refine Le'.cond ?_ ?_ | with_reducible refine Le'.loop fun _ => ?_ | with_reducible refine Le'.sum (fun _ => ?_) (fun _ => ?_) _ | with_reducible exact Le'.refl _)
def q_impl_SameOid_l0 (a0 : List Int) (b1 : List Int) (t13 : Int) : Option (Int ⊕ (Unit ⊕ Bool)) :=
  cond ((qlt (t13) ((a0.length : Int))))
    ((qat a0 t13).bind fun x18 =>
    (qat b1 t13).bind fun x22 =>
    cond (x18 != x22) (some (.inr (.inr false))) (some (.inl (qw (t13 + 1)))))
    (some (.inr (.inl ())))
theorem q_impl_SameOid_l0_le (a0 : List Int) (b1 : List Int) (t13 : Int) : Le' (q_impl_SameOid_l0 a0 b1 t13) (impl_SameOid_l0 a0 b1 t13) := by
  unfold q_impl_SameOid_l0 impl_SameOid_l0
  try simp only [qw_eq, qlt_eq, qat_eq, qle_eq]
  repeat' (first | with_reducible refine Le'.bind ?_ fun _ => ?_ | with_reducible refine Le'.cond ?_ ?_ | with_reducible refine Le'.loop fun _ => ?_ | with_reducible refine Le'.sum (fun _ => ?_) (fun _ => ?_) _ | with_reducible exact Le'.refl _)
def q_impl_SameOid (a0 : List Int) (b1 : List Int) : Option Bool :=
  cond ((a0.length : Int) != (b1.length : Int))
    (some false)
    ((qloop (fun z => q_impl_SameOid_l0 a0 b1 z) 0).bind (Sum.elim (fun d =>
      some true) (fun r => some r)))
theorem q_impl_SameOid_le (a0 : List Int) (b1 : List Int) : Le' (q_impl_SameOid a0 b1) (impl_SameOid a0 b1) := by
  unfold q_impl_SameOid impl_SameOid
  try simp only [qw_eq, qlt_eq, qat_eq, qle_eq]
  repeat' (first | with_reducible exact q_impl_SameOid_l0_le _ _ _ | with_reducible refine Le'.bind ?_ fun _ => ?_ | with_reducible refine Le'.cond ?_ ?_ | with_reducible refine Le'.loop fun _ => ?_ | with_reducible refine Le'.sum (fun _ => ?_) (fun _ => ?_) _ | with_reducible exact Le'.refl _)
def q_impl_hasInt_l0 (l0 : List Int) (n1 : Int) (t9 : Int) : Option (Int ⊕ (Unit ⊕ Bool)) :=
  cond ((qlt (t9) ((l0.length : Int))))
    ((qat l0 t9).bind fun x11 =>
    cond (x11 == n1) (some (.inr (.inr true))) (some (.inl (qw (t9 + 1)))))
    (some (.inr (.inl ())))
theorem q_impl_hasInt_l0_le (l0 : List Int) (n1 : Int) (t9 : Int) : Le' (q_impl_hasInt_l0 l0 n1 t9) (impl_hasInt_l0 l0 n1 t9) := by
  unfold q_impl_hasInt_l0 impl_hasInt_l0
  try simp only [qw_eq, qlt_eq, qat_eq, qle_eq]
  repeat' (first | with_reducible refine Le'.bind ?_ fun _ => ?_ | with_reducible refine Le'.cond ?_ ?_ | with_reducible refine Le'.loop fun _ => ?_ | with_reducible refine Le'.sum (fun _ => ?_) (fun _ => ?_) _ | with_reducible exact Le'.refl _)
def q_impl_hasInt (l0 : List Int) (n1 : Int) : Option Bool :=
  (qloop (fun z => q_impl_hasInt_l0 l0 n1 z) 0).bind (Sum.elim (fun d =>
    some false) (fun r => some r))
theorem q_impl_hasInt_le (l0 : List Int) (n1 : Int) : Le' (q_impl_hasInt l0 n1) (impl_hasInt l0 n1) := by
  unfold q_impl_hasInt impl_hasInt
  try simp only [qw_eq, qlt_eq, qat_eq, qle_eq]
  repeat' (first | with_reducible exact q_impl_hasInt_l0_le _ _ _ | with_reducible refine Le'.bind ?_ fun _ => ?_ | with_reducible refine Le'.cond ?_ ?_ | with_reducible refine Le'.loop fun _ => ?_ | with_reducible refine Le'.sum (fun _ => ?_) (fun _ => ?_) _ | with_reducible exact Le'.refl _)
def q_impl_Loops_l0 (n0 : Net) (l1 : List Int) (t10 : Int) : Option (Int ⊕ (Unit ⊕ Bool)) :=
  cond ((qlt (t10) ((l1.length : Int))))
    ((qat l1 t10).bind fun x13 =>
    (q_impl_in x13 0 (qw ((n0.2.1.length : Int) - 1))).bind fun t20 =>
    cond (!t20)
      (some (.inl (qw (t10 + 1))))
      ((cut l1 0 t10).bind fun t24 =>
      (q_impl_copyInts t24).bind fun t25 =>
      (cut l1 (qw (t10 + 1)) (l1.length : Int)).bind fun t29 =>
      (app t25 t29).bind fun zs30 =>
      (qat n0.2.1 x13).bind fun x35 =>
      (q_impl_Joined n0 x35.1 zs30).bind fun t39 =>
      (qat n0.2.1 x13).bind fun x43 =>
      (q_impl_hasInt t39 x43.2.2.1).bind fun t46 =>
      cond t46 (some (.inr (.inr true))) (some (.inl (qw (t10 + 1))))))
    (some (.inr (.inl ())))
theorem q_impl_Loops_l0_le (n0 : Net) (l1 : List Int) (t10 : Int) : Le' (q_impl_Loops_l0 n0 l1 t10) (impl_Loops_l0 n0 l1 t10) := by
  unfold q_impl_Loops_l0 impl_Loops_l0
  try simp only [qw_eq, qlt_eq, qat_eq, qle_eq]
  repeat' (first | with_reducible exact q_impl_in_le _ _ _ | with_reducible exact q_impl_copyInts_le _ | with_reducible exact q_impl_Joined_le _ _ _ | with_reducible exact q_impl_hasInt_le _ _ | with_reducible refine Le'.bind ?_ fun _ => ?_ | with_reducible refine Le'.cond ?_ ?_ | with_reducible refine Le'.loop fun _ => ?_ | with_reducible refine Le'.sum (fun _ => ?_) (fun _ => ?_) _ | with_reducible exact Le'.refl _)
def q_impl_Loops (n0 : Net) (l1 : List Int) : Option Bool :=
  (qloop (fun z => q_impl_Loops_l0 n0 l1 z) 0).bind (Sum.elim (fun d =>
    some false) (fun r => some r))
theorem q_impl_Loops_le (n0 : Net) (l1 : List Int) : Le' (q_impl_Loops n0 l1) (impl_Loops n0 l1) := by
  unfold q_impl_Loops impl_Loops
  try simp only [qw_eq, qlt_eq, qat_eq, qle_eq]
  repeat' (first | with_reducible exact q_impl_Loops_l0_le _ _ _ | with_reducible refine Le'.bind ?_ fun _ => ?_ | with_reducible refine Le'.cond ?_ ?_ | with_reducible refine Le'.loop fun _ => ?_ | with_reducible refine Le'.sum (fun _ => ?_) (fun _ => ?_) _ | with_reducible exact Le'.refl _)
def q_impl_OneTree_l0 (n0 : Net) (t7 : List Int) (t9 : List Int) (t13 : Int) : Option (Int ⊕ (Unit ⊕ Bool)) :=
  cond ((qlt (t13) ((n0.1.length : Int))))
    ((q_impl_Joined n0 t13 t7).bind fun t19 =>
    (q_impl_Joined n0 t13 t9).bind fun t23 =>
    (q_impl_SameOid t19 t23).bind fun t24 =>
    cond (!t24) (some (.inr (.inr false))) (some (.inl (qw (t13 + 1)))))
    (some (.inr (.inl ())))
theorem q_impl_OneTree_l0_le (n0 : Net) (t7 : List Int) (t9 : List Int) (t13 : Int) : Le' (q_impl_OneTree_l0 n0 t7 t9 t13) (impl_OneTree_l0 n0 t7 t9 t13) := by
  unfold q_impl_OneTree_l0 impl_OneTree_l0
  try simp only [qw_eq, qlt_eq, qat_eq, qle_eq]
  repeat' (first | with_reducible exact q_impl_Joined_le _ _ _ | with_reducible exact q_impl_SameOid_le _ _ | with_reducible refine Le'.bind ?_ fun _ => ?_ | with_reducible refine Le'.cond ?_ ?_ | with_reducible refine Le'.loop fun _ => ?_ | with_reducible refine Le'.sum (fun _ => ?_) (fun _ => ?_) _ | with_reducible exact Le'.refl _)
def q_impl_OneTree (n0 : Net) : Option Bool :=
  (q_impl_Live n0).bind fun t7 =>
  (q_impl_UpLinks n0).bind fun t9 =>
  (qloop (fun z => q_impl_OneTree_l0 n0 t7 t9 z) 0).bind (Sum.elim (fun d =>
    (q_impl_Loops n0 t7).bind fun t29 =>
    some (!t29)) (fun r => some r))
theorem q_impl_OneTree_le (n0 : Net) : Le' (q_impl_OneTree n0) (impl_OneTree n0) := by
  unfold q_impl_OneTree impl_OneTree
  try simp only [qw_eq, qlt_eq, qat_eq, qle_eq]
  repeat' (first | with_reducible exact q_impl_Live_le _ | with_reducible exact q_impl_UpLinks_le _ | with_reducible exact q_impl_OneTree_l0_le _ _ _ _ | with_reducible exact q_impl_Loops_le _ _ | with_reducible refine Le'.bind ?_ fun _ => ?_ | with_reducible refine Le'.cond ?_ ?_ | with_reducible refine Le'.loop fun _ => ?_ | with_reducible refine Le'.sum (fun _ => ?_) (fun _ => ?_) _ | with_reducible exact Le'.refl _)
def q_impl_RootTrue (n0 : Net) (b1 : Int) : Option Int :=
  (q_impl_rootAt n0 b1).bind fun t8 =>
  cond ((qlt (t8) (0)))
    (some 0)
    ((qat n0.1 t8).bind fun x14 =>
    some x14.1)
theorem q_impl_RootTrue_le (n0 : Net) (b1 : Int) : Le' (q_impl_RootTrue n0 b1) (impl_RootTrue n0 b1) := by
  unfold q_impl_RootTrue impl_RootTrue
  try simp only [qw_eq, qlt_eq, qat_eq, qle_eq]
  repeat' (first | with_reducible exact q_impl_rootAt_le _ _ | with_reducible refine Le'.bind ?_ fun _ => ?_ | with_reducible refine Le'.cond ?_ ?_ | with_reducible refine Le'.loop fun _ => ?_ | with_reducible refine Le'.sum (fun _ => ?_) (fun _ => ?_) _ | with_reducible exact Le'.refl _)
def q_impl_Knows (n0 : Net) (b1 : Int) : Option Bool :=
  (q_impl_in b1 0 (qw ((n0.1.length : Int) - 1))).bind fun t12 =>
  cond (!t12)
    (some false)
    ((qat n0.1 b1).bind fun x18 =>
    (qat n0.1 b1).bind fun x24 =>
    (q_impl_BestVec x18.1 x24.2.2.1).bind fun t27 =>
    (q_impl_RootTrue n0 b1).bind fun t34 =>
    (cond (t27.1.1 == t34)
      ((q_impl_DistTrue n0 b1).bind fun t41 =>
      some (t27.1.2.1 == t41))
      (some false)).bind fun t43 =>
    some t43)
theorem q_impl_Knows_le (n0 : Net) (b1 : Int) : Le' (q_impl_Knows n0 b1) (impl_Knows n0 b1) := by
  unfold q_impl_Knows impl_Knows
  try simp only [qw_eq, qlt_eq, qat_eq, qle_eq]
  repeat' (first | with_reducible exact q_impl_in_le _ _ _ | with_reducible exact q_impl_BestVec_le _ _ | with_reducible exact q_impl_RootTrue_le _ _ | with_reducible exact q_impl_DistTrue_le _ _ | with_reducible refine Le'.bind ?_ fun _ => ?_ | with_reducible refine Le'.cond ?_ ?_ | with_reducible refine Le'.loop fun _ => ?_ | with_reducible refine Le'.sum (fun _ => ?_) (fun _ => ?_) _ | with_reducible exact Le'.refl _)
def q_impl_AllKnow_l0 (n0 : Net) (t7 : Int) : Option (Int ⊕ (Unit ⊕ Bool)) :=
  cond ((qlt (t7) ((n0.1.length : Int))))
    ((q_impl_Knows n0 t7).bind fun t12 =>
    cond (!t12) (some (.inr (.inr false))) (some (.inl (qw (t7 + 1)))))
    (some (.inr (.inl ())))
theorem q_impl_AllKnow_l0_le (n0 : Net) (t7 : Int) : Le' (q_impl_AllKnow_l0 n0 t7) (impl_AllKnow_l0 n0 t7) := by
  unfold q_impl_AllKnow_l0 impl_AllKnow_l0
  try simp only [qw_eq, qlt_eq, qat_eq, qle_eq]
  repeat' (first | with_reducible exact q_impl_Knows_le _ _ | with_reducible refine Le'.bind ?_ fun _ => ?_ | with_reducible refine Le'.cond ?_ ?_ | with_reducible refine Le'.loop fun _ => ?_ | with_reducible refine Le'.sum (fun _ => ?_) (fun _ => ?_) _ | with_reducible exact Le'.refl _)
def q_impl_AllKnow (n0 : Net) : Option Bool :=
  (qloop (fun z => q_impl_AllKnow_l0 n0 z) 0).bind (Sum.elim (fun d =>
    some true) (fun r => some r))
theorem q_impl_AllKnow_le (n0 : Net) : Le' (q_impl_AllKnow n0) (impl_AllKnow n0) := by
  unfold q_impl_AllKnow impl_AllKnow
  try simp only [qw_eq, qlt_eq, qat_eq, qle_eq]
  repeat' (first | with_reducible exact q_impl_AllKnow_l0_le _ _ | with_reducible refine Le'.bind ?_ fun _ => ?_ | with_reducible refine Le'.cond ?_ ?_ | with_reducible refine Le'.loop fun _ => ?_ | with_reducible refine Le'.sum (fun _ => ?_) (fun _ => ?_) _ | with_reducible exact Le'.refl _)
def q_impl_Safe (n0 : Net) : Option Int :=
  (q_impl_NetOk n0).bind fun t5 =>
  cond (!t5)
    (some 1)
    ((q_impl_Agreed n0).bind fun t9 =>
    cond (!t9)
      (some 0)
      ((q_impl_OneTree n0).bind fun t13 =>
      cond (!t13)
        (some 2)
        ((q_impl_AllKnow n0).bind fun t17 =>
        cond (!t17)
          (some 3)
          ((q_impl_OneSpeaks n0).bind fun t21 =>
          cond (!t21) (some 4) (some 0)))))
theorem q_impl_Safe_le (n0 : Net) : Le' (q_impl_Safe n0) (impl_Safe n0) := by
  unfold q_impl_Safe impl_Safe
  try simp only [qw_eq, qlt_eq, qat_eq, qle_eq]
  repeat' (first | with_reducible exact q_impl_NetOk_le _ | with_reducible exact q_impl_Agreed_le _ | with_reducible exact q_impl_OneTree_le _ | with_reducible exact q_impl_AllKnow_le _ | with_reducible exact q_impl_OneSpeaks_le _ | with_reducible refine Le'.bind ?_ fun _ => ?_ | with_reducible refine Le'.cond ?_ ?_ | with_reducible refine Le'.loop fun _ => ?_ | with_reducible refine Le'.sum (fun _ => ?_) (fun _ => ?_) _ | with_reducible exact Le'.refl _)
def q_laws_FnRings_l0 (t14 : Int) (t23 : Net) (x50 : Int) (t59 : Net) (t10 : Int) : Option (Int ⊕ (Unit ⊕ Bool)) :=
  cond ((qlt (t10) ((qw (3 + (t14.tmod 4))))))
    ((q_impl_DistTrue t23 t10).bind fun t67 =>
    (cond ((qlt ((qw ((qw (3 + (t14.tmod 4))).tdiv 2))) (t67)))
      (some true)
      ((q_impl_Live t59).bind fun t73 =>
      (q_laws_has t73 t10).bind fun t75 =>
      some (!(t75 == (t10 != x50))))).bind fun t80 =>
    cond t80 (some (.inr (.inr false))) (some (.inl (qw (t10 + 1)))))
    (some (.inr (.inl ())))
theorem q_laws_FnRings_l0_le (t14 : Int) (t23 : Net) (x50 : Int) (t59 : Net) (t10 : Int) : Le' (q_laws_FnRings_l0 t14 t23 x50 t59 t10) (laws_FnRings_l0 t14 t23 x50 t59 t10) := by
  unfold q_laws_FnRings_l0 laws_FnRings_l0
  try simp only [qw_eq, qlt_eq, qat_eq, qle_eq]
  repeat' (first | with_reducible exact q_impl_DistTrue_le _ _ | with_reducible exact q_impl_Live_le _ | with_reducible exact q_laws_has_le _ _ | with_reducible refine Le'.bind ?_ fun _ => ?_ | with_reducible refine Le'.cond ?_ ?_ | with_reducible refine Le'.loop fun _ => ?_ | with_reducible refine Le'.sum (fun _ => ?_) (fun _ => ?_) _ | with_reducible exact Le'.refl _)
def q_laws_FnRings (p0 : List Int) : Option Bool :=
  (q_laws_big p0).bind fun t12 =>
  cond t12
    (some true)
    ((q_laws_at p0 2).bind fun t14 =>
    (q_laws_at p0 3).bind fun t19 =>
    (rem t19 (qw (3 + (t14.tmod 4)))).bind fun t21 =>
    (q_laws_ring (qw (3 + (t14.tmod 4))) t21).bind fun t22 =>
    (q_impl_Rounds t22 20).bind fun t23 =>
    (q_impl_Live t23).bind fun t25 =>
    (cond ((t23.1.length : Int) != (qw (3 + (t14.tmod 4))))
      (some true)
      ((q_impl_Agreed t23).bind fun t33 =>
      some (!t33))).bind fun t35 =>
    (cond t35
      (some true)
      (some ((t25.length : Int) != (qw ((qw (3 + (t14.tmod 4))) - 1))))).bind fun t42 =>
    cond t42
      (some false)
      ((q_laws_at p0 4).bind fun t45 =>
      (rem t45 (qw ((qw (3 + (t14.tmod 4))) - 1))).bind fun t48 =>
      (ix t25.length t48).bind fun j49 =>
      (t25[j49]?).bind fun x50 =>
      (q_impl_Step t23 (4, x50)).bind fun t55 =>
      (q_impl_Rounds t55.1 20).bind fun t59 =>
      (qloop (fun z => q_laws_FnRings_l0 t14 t23 x50 t59 z) 0).bind (Sum.elim (fun d =>
        (cond t55.2
          ((q_impl_Agreed t59).bind fun t84 =>
          some t84)
          (some false)).bind fun t85 =>
        (cond t85
          ((q_impl_Safe t59).bind fun t88 =>
          some (t88 == 0))
          (some false)).bind fun t90 =>
        some t90) (fun r => some r))))
theorem q_laws_FnRings_le (p0 : List Int) : Le' (q_laws_FnRings p0) (laws_FnRings p0) := by
  unfold q_laws_FnRings laws_FnRings
  try simp only [qw_eq, qlt_eq, qat_eq, qle_eq]
  repeat' (first | with_reducible exact q_laws_big_le _ | with_reducible exact q_laws_at_le _ _ | with_reducible exact q_laws_ring_le _ _ | with_reducible exact q_impl_Rounds_le _ _ | with_reducible exact q_impl_Live_le _ | with_reducible exact q_impl_Agreed_le _ | with_reducible exact q_impl_Step_le _ _ | with_reducible exact q_laws_FnRings_l0_le _ _ _ _ _ | with_reducible exact q_impl_Safe_le _ | with_reducible refine Le'.bind ?_ fun _ => ?_ | with_reducible refine Le'.cond ?_ ?_ | with_reducible refine Le'.loop fun _ => ?_ | with_reducible refine Le'.sum (fun _ => ?_) (fun _ => ?_) _ | with_reducible exact Le'.refl _)
end Go.V.W
