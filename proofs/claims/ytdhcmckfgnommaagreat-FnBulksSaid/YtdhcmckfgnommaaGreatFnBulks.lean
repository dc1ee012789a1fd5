/- The law FnBulks: part of the proof that for every input it returns true. No condition. -/
import Derived.Test.YtdhcmckfgnommaaGreatFnBulksP1
namespace Go.V.W
open Go.Proofs
set_option linter.unusedVariables false
def a_impl_portThing : List (Nat × LoopAnn) := []
theorem e_impl_portThing : fnDen ⟨tis, fns_306, [], false⟩ a_impl_portThing Tryz.f200 (codeOf Tryz.f200) [.val true cBridge false, .val false (.one (.int .i64)) false, .val false (.one (.int .i64)) false] [.val false (.one (.int .i64)) true] = fun a => impl_portThing a.1 a.2.1 a.2.2 := by kernel_rfl
theorem m_impl_portThing : Meets Tryz.prog 200 F_impl_portThing := by
  have h := meets_of (ann := a_impl_portThing) (ps := [.val true cBridge false, .val false (.one (.int .i64)) false, .val false (.one (.int .i64)) false]) (rs := [.val false (.one (.int .i64)) true]) g_306 mixed Tryz.func200 (by kernel_rfl) (by kernel_rfl : Tryz.f200.body = some (codeOf Tryz.f200))
  rw [e_impl_portThing] at h
  exact h
noncomputable def fns_200 : List (FuncId × Fn) := (200, F_impl_portThing) :: fns_306
theorem g_200 : Good Tryz.prog ⟨tis, fns_200, [], false⟩ := g_306.cons m_impl_portThing
noncomputable def impl_MibList_l0 (p0 : Bridge) (t32 : Int) (t3 : List Bind) : Option ((Int × List Bind) ⊕ (List Bind)) :=
  cond (decide (t32 < ([p0.2.2.2.2.2.2.1, p0.2.2.2.2.2.2.2.1, p0.2.2.2.2.2.2.2.2.1, p0.2.2.2.2.2.2.2.2.2.1].length : Int)))
    ((ix [p0.2.2.2.2.2.2.1, p0.2.2.2.2.2.2.2.1, p0.2.2.2.2.2.2.2.2.1, p0.2.2.2.2.2.2.2.2.2.1].length t32).bind fun j35 =>
    ([p0.2.2.2.2.2.2.1, p0.2.2.2.2.2.2.2.1, p0.2.2.2.2.2.2.2.2.1, p0.2.2.2.2.2.2.2.2.2.1][j35]?).bind fun x36 =>
    (impl_number x36).bind fun t39 =>
    (impl_thing t39 [1, w64 (t32 + 2)]).bind fun t43 =>
    (app t3 [t43]).bind fun zs45 =>
    some (.inl (w64 (t32 + 1), zs45)))
    (some (.inr t3))
noncomputable def impl_MibList_l4 (p0 : Bridge) (t6 : Int) (t54 : Int) (t3_3 : List Bind) : Option ((Int × List Bind) ⊕ (List Bind)) :=
  cond (decide (t54 < (p0.2.2.1.length : Int)))
    ((impl_portThing p0 t6 t54).bind fun t61 =>
    (impl_number t61).bind fun t62 =>
    (impl_thing t62 [2, t6, w64 (t54 + 1)]).bind fun t67 =>
    (app t3_3 [t67]).bind fun zs69 =>
    some (.inl (w64 (t54 + 1), zs69)))
    (some (.inr t3_3))
noncomputable def impl_MibList_l2 (p0 : Bridge) (t6 : Int) (t3_2 : List Bind) : Option ((Int × List Bind) ⊕ (List Bind)) :=
  cond (decide (t6 ≤ 4))
    ((loop (fun z => impl_MibList_l4 p0 t6 z.1 z.2) (0, t3_2)).bind fun d_1 =>
    some (.inl (w64 (t6 + 1), d_1)))
    (some (.inr t3_2))
noncomputable def impl_MibList_l8 (p0 : Bridge) (t8 : Int) (t79 : Int) (t3_7 : List Bind) : Option ((Int × List Bind) ⊕ (List Bind)) :=
  cond (decide (t79 < (p0.2.2.2.2.1.length : Int)))
    ((at? p0.2.2.2.2.1 t79).bind fun x81 =>
    (ix [1, x81.2.1, x81.2.2].length (w64 (t8 - 1))).bind fun j91 =>
    ([1, x81.2.1, x81.2.2][j91]?).bind fun x92 =>
    (impl_number x92).bind fun t93 =>
    (impl_thing t93 [3, t8, x81.1]).bind fun t98 =>
    (app t3_7 [t98]).bind fun zs100 =>
    some (.inl (w64 (t79 + 1), zs100)))
    (some (.inr t3_7))
noncomputable def impl_MibList_l6 (p0 : Bridge) (t8 : Int) (t3_6 : List Bind) : Option ((Int × List Bind) ⊕ (List Bind)) :=
  cond (decide (t8 ≤ 3))
    ((loop (fun z => impl_MibList_l8 p0 t8 z.1 z.2) (0, t3_6)).bind fun d_3 =>
    some (.inl (w64 (t8 + 1), d_3)))
    (some (.inr t3_6))
noncomputable def impl_MibList_l10 (p0 : Bridge) (t105 : Int) (t3_10 : List Bind) : Option ((Int × List Bind) ⊕ (List Bind)) :=
  cond (decide (t105 < (p0.2.2.2.1.length : Int)))
    ((at? p0.2.2.2.1 t105).bind fun x107 =>
    (impl_number (w64 (x107.2.2.1 + 1))).bind fun t113 =>
    (impl_thing t113 [4, 1, x107.1, x107.2.1]).bind fun t119 =>
    (app t3_10 [t119]).bind fun zs121 =>
    some (.inl (w64 (t105 + 1), zs121)))
    (some (.inr t3_10))
noncomputable def impl_MibList (p0 : Bridge) : Option (List Bind) :=
  (impl_BridgeOk p0).bind fun t14 =>
  cond (!t14)
    (some [])
    ((impl_thing (4, 0, p0.2.1, []) ([1, 1] : List Int)).bind fun t20 =>
    (loop (fun z => impl_MibList_l0 p0 z.1 z.2) (0, [t20])).bind fun d =>
    (loop (fun z => impl_MibList_l2 p0 z.1 z.2) (1, d)).bind fun d_2 =>
    (loop (fun z => impl_MibList_l6 p0 z.1 z.2) (1, d_2)).bind fun d_4 =>
    (loop (fun z => impl_MibList_l10 p0 z.1 z.2) (0, d_4)).bind fun d_5 =>
    some d_5)
noncomputable def F_impl_MibList : Fn := ⟨[.val true cBridge false], [.val false (.one (.sl cBind)) false], fun a => impl_MibList a⟩
def a_impl_MibList : List (Nat × LoopAnn) := [(0, ⟨⟨[(3, false, [.own 1000000000]), (32, false, [.dat (.int .i64)])], [(1000000000, .root cBind false)]⟩,
    ⟨[(3, false, [.own 1000000300])], [(1000000300, .root cBind false)]⟩, none⟩),
  (2, ⟨⟨[(3, false, [.own 1000002000]), (6, false, [.dat (.int .i64)])], [(1000002000, .root cBind false)]⟩,
    ⟨[(3, false, [.own 1000002300])], [(1000002300, .root cBind false)]⟩, none⟩),
  (4, ⟨⟨[(3, false, [.own 1000004000]), (54, false, [.dat (.int .i64)])], [(1000004000, .root cBind false)]⟩,
    ⟨[(3, false, [.own 1000004300])], [(1000004300, .root cBind false)]⟩, none⟩),
  (6, ⟨⟨[(3, false, [.own 1000006000]), (8, false, [.dat (.int .i64)])], [(1000006000, .root cBind false)]⟩,
    ⟨[(3, false, [.own 1000006300])], [(1000006300, .root cBind false)]⟩, none⟩),
  (8, ⟨⟨[(3, false, [.own 1000008000]), (79, false, [.dat (.int .i64)])], [(1000008000, .root cBind false)]⟩,
    ⟨[(3, false, [.own 1000008300])], [(1000008300, .root cBind false)]⟩, none⟩),
  (10, ⟨⟨[(3, false, [.own 1000010000]), (105, false, [.dat (.int .i64)])], [(1000010000, .root cBind false)]⟩,
    ⟨[(3, false, [.own 1000010300])], [(1000010300, .root cBind false)]⟩, none⟩)]
theorem e_impl_MibList : fnDen ⟨tis, fns_200, [], false⟩ a_impl_MibList Tryz.f86 (codeOf Tryz.f86) [.val true cBridge false] [.val false (.one (.sl cBind)) false] = fun a => impl_MibList a := by kernel_rfl
theorem m_impl_MibList : Meets Tryz.prog 86 F_impl_MibList := by
  have h := meets_of (ann := a_impl_MibList) (ps := [.val true cBridge false]) (rs := [.val false (.one (.sl cBind)) false]) g_200 mixed Tryz.func86 (by kernel_rfl) (by kernel_rfl : Tryz.f86.body = some (codeOf Tryz.f86))
  rw [e_impl_MibList] at h
  exact h
noncomputable def fns_86 : List (FuncId × Fn) := (86, F_impl_MibList) :: fns_200
theorem g_86 : Good Tryz.prog ⟨tis, fns_86, [], false⟩ := g_200.cons m_impl_MibList
noncomputable def impl_LessOid_l0 (a0 : List Int) (b1 : List Int) (i5 : Int) : Option (Int ⊕ (Unit ⊕ Bool)) :=
  (cond (decide (i5 < (a0.length : Int))) (some (decide (i5 < (b1.length : Int)))) (some false)).bind fun t15 =>
  cond t15
    ((at? a0 i5).bind fun x20 =>
    (at? b1 i5).bind fun x24 =>
    cond (x20 != x24)
      ((at? a0 i5).bind fun x29 =>
      (at? b1 i5).bind fun x33 =>
      some (.inr (.inr (decide (x29 < x33)))))
      (some (.inl (w64 (i5 + 1)))))
    (some (.inr (.inl ())))
noncomputable def impl_LessOid (a0 : List Int) (b1 : List Int) : Option Bool :=
  (loop (fun z => impl_LessOid_l0 a0 b1 z) 0).bind (Sum.elim (fun d =>
    let t4 := decide ((a0.length : Int) < (b1.length : Int))
    some t4) (fun r => some r))
noncomputable def F_impl_LessOid : Fn := ⟨[.val false (.one (.sl (.one (.int .i64)))) false, .val false (.one (.sl (.one (.int .i64)))) false], [.val false (.one .bool) true], fun a => impl_LessOid a.1 a.2⟩
def a_impl_LessOid : List (Nat × LoopAnn) := [(0, ⟨⟨[(5, false, [.dat (.int .i64)]), (11, false, [.undef]), (12, false, [.undef]), (13, false, [.undef]), (14, false, [.undef])], []⟩,
    ⟨[], []⟩, some ⟨[(4, false, [.dat .bool])], []⟩⟩)]
theorem e_impl_LessOid : fnDen ⟨tis, fns_86, [], false⟩ a_impl_LessOid Tryz.f87 (codeOf Tryz.f87) [.val false (.one (.sl (.one (.int .i64)))) false, .val false (.one (.sl (.one (.int .i64)))) false] [.val false (.one .bool) true] = fun a => impl_LessOid a.1 a.2 := by kernel_rfl
theorem m_impl_LessOid : Meets Tryz.prog 87 F_impl_LessOid := by
  have h := meets_of (ann := a_impl_LessOid) (ps := [.val false (.one (.sl (.one (.int .i64)))) false, .val false (.one (.sl (.one (.int .i64)))) false]) (rs := [.val false (.one .bool) true]) g_86 mixed Tryz.func87 (by kernel_rfl) (by kernel_rfl : Tryz.f87.body = some (codeOf Tryz.f87))
  rw [e_impl_LessOid] at h
  exact h
noncomputable def fns_87 : List (FuncId × Fn) := (87, F_impl_LessOid) :: fns_86
theorem g_87 : Good Tryz.prog ⟨tis, fns_87, [], false⟩ := g_86.cons m_impl_LessOid
noncomputable def impl_MibNext_l0 (o1 : List Int) (t8 : List Bind) (t10 : Int) (b1 : Int) (b2 : Int) (b3 : List UInt8) (b0_1 : List Int) (b4 : List Int) : Option ((Int × Int × Int × List UInt8 × List Int × List Int) ⊕ ((Int × Int × List UInt8 × List Int × List Int) ⊕ (List Int × Int × Int × List UInt8 × List Int))) :=
  cond (decide (t10 < (t8.length : Int)))
    ((at? t8 t10).bind fun x12 =>
    (impl_LessOid o1 x12.1).bind fun t17 =>
    cond t17
      (some (.inr (.inr x12)))
      (some (.inl (w64 (t10 + 1), b1, b2, b3, b0_1, b4))))
    (some (.inr (.inl (b1, b2, b3, b0_1, b4))))
noncomputable def impl_MibNext (b0 : Bridge) (o1 : List Int) : Option Bind :=
  (impl_MibList b0).bind fun t8 =>
  (loop (fun z => impl_MibNext_l0 o1 t8 z.1 z.2.1 z.2.2.1 z.2.2.2.1 z.2.2.2.2.1 z.2.2.2.2.2) (0, 0, 0, [], [], [])).bind (Sum.elim (fun d =>
    (impl_copyInts o1).bind fun t21 =>
    some (t21, 130, 0, [], [])) (fun r => some r))
noncomputable def F_impl_MibNext : Fn := ⟨[.val true cBridge false, .val false (.one (.sl (.one (.int .i64)))) false], [.val true cBind false], fun a => impl_MibNext a.1 a.2⟩
def a_impl_MibNext : List (Nat × LoopAnn) := [(0, ⟨⟨[(10, false, [.dat (.int .i64)])], [(2048, .box [.own 1000000000, .dat (.int .i64), .dat (.int .i64), .dat .str, .own 1000000001]), (1000000000, .root (.one (.int .i64)) true), (1000000001, .root (.one (.int .i64)) true)]⟩,
    ⟨[], [(2048, .box [.own 1000000300, .dat (.int .i64), .dat (.int .i64), .dat .str, .own 1000000301]), (1000000300, .root (.one (.int .i64)) true), (1000000301, .root (.one (.int .i64)) true)]⟩, some ⟨[], [(2048, .box [.dat (.sl (.one (.int .i64))), .dat (.int .i64), .dat (.int .i64), .dat .str, .dat (.sl (.one (.int .i64)))])]⟩⟩)]
theorem e_impl_MibNext : fnDen ⟨tis, fns_87, [], false⟩ a_impl_MibNext Tryz.f20 (codeOf Tryz.f20) [.val true cBridge false, .val false (.one (.sl (.one (.int .i64)))) false] [.val true cBind false] = fun a => impl_MibNext a.1 a.2 := by kernel_rfl
theorem m_impl_MibNext : Meets Tryz.prog 20 F_impl_MibNext := by
  have h := meets_of (ann := a_impl_MibNext) (ps := [.val true cBridge false, .val false (.one (.sl (.one (.int .i64)))) false]) (rs := [.val true cBind false]) g_87 mixed Tryz.func20 (by kernel_rfl) (by kernel_rfl : Tryz.f20.body = some (codeOf Tryz.f20))
  rw [e_impl_MibNext] at h
  exact h
noncomputable def fns_20 : List (FuncId × Fn) := (20, F_impl_MibNext) :: fns_87
theorem g_20 : Good Tryz.prog ⟨tis, fns_20, [], false⟩ := g_87.cons m_impl_MibNext
noncomputable def impl_OidOk_l0 (o0 : List Int) (t7 : Int) : Option (Int ⊕ (Unit ⊕ Bool)) :=
  cond (decide (t7 < (o0.length : Int)))
    ((at? o0 t7).bind fun x9 =>
    (impl_in x9 0 100000).bind fun t12 =>
    cond (!t12) (some (.inr (.inr false))) (some (.inl (w64 (t7 + 1)))))
    (some (.inr (.inl ())))
noncomputable def impl_OidOk (o0 : List Int) : Option Bool :=
  (loop (fun z => impl_OidOk_l0 o0 z) 0).bind (Sum.elim (fun d =>
    (impl_in (o0.length : Int) 1 10).bind fun t17 =>
    some t17) (fun r => some r))
noncomputable def F_impl_OidOk : Fn := ⟨[.val false (.one (.sl (.one (.int .i64)))) false], [.val false (.one .bool) true], fun a => impl_OidOk a⟩
def a_impl_OidOk : List (Nat × LoopAnn) := [(0, ⟨⟨[(7, false, [.dat (.int .i64)])], []⟩,
    ⟨[], []⟩, some ⟨[(2, false, [.dat .bool])], []⟩⟩)]
theorem e_impl_OidOk : fnDen ⟨tis, fns_20, [], false⟩ a_impl_OidOk Tryz.f194 (codeOf Tryz.f194) [.val false (.one (.sl (.one (.int .i64)))) false] [.val false (.one .bool) true] = fun a => impl_OidOk a := by kernel_rfl
theorem m_impl_OidOk : Meets Tryz.prog 194 F_impl_OidOk := by
  have h := meets_of (ann := a_impl_OidOk) (ps := [.val false (.one (.sl (.one (.int .i64)))) false]) (rs := [.val false (.one .bool) true]) g_20 mixed Tryz.func194 (by kernel_rfl) (by kernel_rfl : Tryz.f194.body = some (codeOf Tryz.f194))
  rw [e_impl_OidOk] at h
  exact h
noncomputable def fns_194 : List (FuncId × Fn) := (194, F_impl_OidOk) :: fns_20
theorem g_194 : Good Tryz.prog ⟨tis, fns_194, [], false⟩ := g_20.cons m_impl_OidOk
noncomputable def impl_SameOid_l0 (a0 : List Int) (b1 : List Int) (t13 : Int) : Option (Int ⊕ (Unit ⊕ Bool)) :=
  cond (decide (t13 < (a0.length : Int)))
    ((at? a0 t13).bind fun x18 =>
    (at? b1 t13).bind fun x22 =>
    cond (x18 != x22) (some (.inr (.inr false))) (some (.inl (w64 (t13 + 1)))))
    (some (.inr (.inl ())))
noncomputable def impl_SameOid (a0 : List Int) (b1 : List Int) : Option Bool :=
  cond ((a0.length : Int) != (b1.length : Int))
    (some false)
    ((loop (fun z => impl_SameOid_l0 a0 b1 z) 0).bind (Sum.elim (fun d =>
      some true) (fun r => some r)))
noncomputable def F_impl_SameOid : Fn := ⟨[.val false (.one (.sl (.one (.int .i64)))) false, .val false (.one (.sl (.one (.int .i64)))) false], [.val false (.one .bool) true], fun a => impl_SameOid a.1 a.2⟩
def a_impl_SameOid : List (Nat × LoopAnn) := [(0, ⟨⟨[(13, false, [.dat (.int .i64)])], []⟩,
    ⟨[], []⟩, some ⟨[(4, false, [.dat .bool])], []⟩⟩)]
theorem e_impl_SameOid : fnDen ⟨tis, fns_194, [], false⟩ a_impl_SameOid Tryz.f18 (codeOf Tryz.f18) [.val false (.one (.sl (.one (.int .i64)))) false, .val false (.one (.sl (.one (.int .i64)))) false] [.val false (.one .bool) true] = fun a => impl_SameOid a.1 a.2 := by kernel_rfl
theorem m_impl_SameOid : Meets Tryz.prog 18 F_impl_SameOid := by
  have h := meets_of (ann := a_impl_SameOid) (ps := [.val false (.one (.sl (.one (.int .i64)))) false, .val false (.one (.sl (.one (.int .i64)))) false]) (rs := [.val false (.one .bool) true]) g_194 mixed Tryz.func18 (by kernel_rfl) (by kernel_rfl : Tryz.f18.body = some (codeOf Tryz.f18))
  rw [e_impl_SameOid] at h
  exact h
noncomputable def fns_18 : List (FuncId × Fn) := (18, F_impl_SameOid) :: fns_194
theorem g_18 : Good Tryz.prog ⟨tis, fns_18, [], false⟩ := g_194.cons m_impl_SameOid
noncomputable def impl_SameVal (a0 : Val) (b1 : Val) : Option Bool :=
  (cond (a0.1 == b1.1) (some (a0.2.1 == b1.2.1)) (some false)).bind fun t16 =>
  (cond t16 (some (a0.2.2.1 == b1.2.2.1)) (some false)).bind fun t23 =>
  (cond t23
    ((impl_SameOid a0.2.2.2 b1.2.2.2).bind fun t29 =>
    some t29)
    (some false)).bind fun t30 =>
  some t30
noncomputable def F_impl_SameVal : Fn := ⟨[.val true cVal false, .val true cVal false], [.val false (.one .bool) true], fun a => impl_SameVal a.1 a.2⟩
def a_impl_SameVal : List (Nat × LoopAnn) := []
theorem e_impl_SameVal : fnDen ⟨tis, fns_18, [], false⟩ a_impl_SameVal Tryz.f19 (codeOf Tryz.f19) [.val true cVal false, .val true cVal false] [.val false (.one .bool) true] = fun a => impl_SameVal a.1 a.2 := by kernel_rfl
theorem m_impl_SameVal : Meets Tryz.prog 19 F_impl_SameVal := by
  have h := meets_of (ann := a_impl_SameVal) (ps := [.val true cVal false, .val true cVal false]) (rs := [.val false (.one .bool) true]) g_18 mixed Tryz.func19 (by kernel_rfl) (by kernel_rfl : Tryz.f19.body = some (codeOf Tryz.f19))
  rw [e_impl_SameVal] at h
  exact h
noncomputable def fns_19 : List (FuncId × Fn) := (19, F_impl_SameVal) :: fns_18
theorem g_19 : Good Tryz.prog ⟨tis, fns_19, [], false⟩ := g_18.cons m_impl_SameVal
noncomputable def impl_isInt (n0 : Int) : Option Bool :=
  (impl_in n0 (-2147483648) 2147483647).bind fun t4 =>
  some t4
noncomputable def F_impl_isInt : Fn := ⟨[.val false (.one (.int .i64)) false], [.val false (.one .bool) true], fun a => impl_isInt a⟩
def a_impl_isInt : List (Nat × LoopAnn) := []
theorem e_impl_isInt : fnDen ⟨tis, fns_19, [], false⟩ a_impl_isInt Tryz.f196 (codeOf Tryz.f196) [.val false (.one (.int .i64)) false] [.val false (.one .bool) true] = fun a => impl_isInt a := by kernel_rfl
theorem m_impl_isInt : Meets Tryz.prog 196 F_impl_isInt := by
  have h := meets_of (ann := a_impl_isInt) (ps := [.val false (.one (.int .i64)) false]) (rs := [.val false (.one .bool) true]) g_19 mixed Tryz.func196 (by kernel_rfl) (by kernel_rfl : Tryz.f196.body = some (codeOf Tryz.f196))
  rw [e_impl_isInt] at h
  exact h
noncomputable def fns_196 : List (FuncId × Fn) := (196, F_impl_isInt) :: fns_19
theorem g_196 : Good Tryz.prog ⟨tis, fns_196, [], false⟩ := g_19.cons m_impl_isInt
noncomputable def impl_ValOk (v0 : Val) : Option Bool :=
  cond (v0.1 == 2)
    ((impl_isInt v0.2.1).bind fun t17 =>
    (cond t17
      ((impl_SameVal v0 (v0.1, v0.2.1, [], [])).bind fun t43 =>
      some t43)
      (some false)).bind fun t44 =>
    some t44)
    (cond (v0.1 == 4)
      (let ok4 := decide ((v0.2.2.1.length : Int) ≤ 20)
      (cond ok4
        ((impl_SameVal v0 (v0.1, 0, v0.2.2.1, [])).bind fun t43_1 =>
        some t43_1)
        (some false)).bind fun t44_1 =>
      some t44_1)
      (cond (v0.1 == 6)
        ((impl_OidOk v0.2.2.2).bind fun t34 =>
        (cond t34
          ((impl_SameVal v0 (v0.1, 0, [], v0.2.2.2)).bind fun t43_2 =>
          some t43_2)
          (some false)).bind fun t44_2 =>
        some t44_2)
        (cond (v0.1 == 5)
          (cond (v0.1 == 5)
            (((impl_SameVal v0 (v0.1, 0, [], [])).bind fun t43_3 =>
            some t43_3).bind fun t44_3 =>
            some t44_3)
            (some false))
          (cond (v0.1 == 128)
            (cond (v0.1 == 128)
              (((impl_SameVal v0 (v0.1, 0, [], [])).bind fun t43_4 =>
              some t43_4).bind fun t44_4 =>
              some t44_4)
              (some false))
            (cond (v0.1 == 130)
              (((impl_SameVal v0 (v0.1, 0, [], [])).bind fun t43_5 =>
              some t43_5).bind fun t44_5 =>
              some t44_5)
              (some false))))))
noncomputable def F_impl_ValOk : Fn := ⟨[.val true cVal false], [.val false (.one .bool) true], fun a => impl_ValOk a⟩
def a_impl_ValOk : List (Nat × LoopAnn) := []
theorem e_impl_ValOk : fnDen ⟨tis, fns_196, [], false⟩ a_impl_ValOk Tryz.f195 (codeOf Tryz.f195) [.val true cVal false] [.val false (.one .bool) true] = fun a => impl_ValOk a := by kernel_rfl
theorem m_impl_ValOk : Meets Tryz.prog 195 F_impl_ValOk := by
  have h := meets_of (ann := a_impl_ValOk) (ps := [.val true cVal false]) (rs := [.val false (.one .bool) true]) g_196 mixed Tryz.func195 (by kernel_rfl) (by kernel_rfl : Tryz.f195.body = some (codeOf Tryz.f195))
  rw [e_impl_ValOk] at h
  exact h
noncomputable def fns_195 : List (FuncId × Fn) := (195, F_impl_ValOk) :: fns_196
theorem g_195 : Good Tryz.prog ⟨tis, fns_195, [], false⟩ := g_196.cons m_impl_ValOk
noncomputable def impl_PduOk_l1 (p0 : Pdu) (t35 : Int) : Option (Int ⊕ (Unit ⊕ Bool)) :=
  cond (decide (t35 < (p0.2.2.2.2.length : Int)))
    ((at? p0.2.2.2.2 t35).bind fun x38 =>
    (cond (decide (t35 ≥ 10))
      (some true)
      ((impl_OidOk x38.1).bind fun t45 =>
      some (!t45))).bind fun t47 =>
    (cond t47
      (some true)
      ((impl_ValOk x38.2).bind fun t51 =>
      some (!t51))).bind fun t53 =>
    cond t53 (some (.inr (.inr false))) (some (.inl (w64 (t35 + 1)))))
    (some (.inr (.inl ())))
noncomputable def impl_PduOk_l1_1 (p0 : Pdu) (t35_1 : Int) : Option (Int ⊕ (Unit ⊕ Bool)) :=
  cond (decide (t35_1 < (p0.2.2.2.2.length : Int)))
    ((at? p0.2.2.2.2 t35_1).bind fun x38_1 =>
    (cond (decide (t35_1 ≥ 10))
      (some true)
      ((impl_OidOk x38_1.1).bind fun t45_1 =>
      some (!t45_1))).bind fun t47_1 =>
    (cond t47_1
      (some true)
      ((impl_ValOk x38_1.2).bind fun t51_1 =>
      some (!t51_1))).bind fun t53_1 =>
    cond t53_1 (some (.inr (.inr false))) (some (.inl (w64 (t35_1 + 1)))))
    (some (.inr (.inl ())))
noncomputable def impl_PduOk_l1_2 (p0 : Pdu) (t35_2 : Int) : Option (Int ⊕ (Unit ⊕ Bool)) :=
  cond (decide (t35_2 < (p0.2.2.2.2.length : Int)))
    ((at? p0.2.2.2.2 t35_2).bind fun x38_2 =>
    (cond (decide (t35_2 ≥ 10))
      (some true)
      ((impl_OidOk x38_2.1).bind fun t45_2 =>
      some (!t45_2))).bind fun t47_2 =>
    (cond t47_2
      (some true)
      ((impl_ValOk x38_2.2).bind fun t51_2 =>
      some (!t51_2))).bind fun t53_2 =>
    cond t53_2 (some (.inr (.inr false))) (some (.inl (w64 (t35_2 + 1)))))
    (some (.inr (.inl ())))
noncomputable def impl_PduOk_l1_3 (p0 : Pdu) (t35_3 : Int) : Option (Int ⊕ (Unit ⊕ Bool)) :=
  cond (decide (t35_3 < (p0.2.2.2.2.length : Int)))
    ((at? p0.2.2.2.2 t35_3).bind fun x38_3 =>
    (cond (decide (t35_3 ≥ 10))
      (some true)
      ((impl_OidOk x38_3.1).bind fun t45_3 =>
      some (!t45_3))).bind fun t47_3 =>
    (cond t47_3
      (some true)
      ((impl_ValOk x38_3.2).bind fun t51_3 =>
      some (!t51_3))).bind fun t53_3 =>
    cond t53_3 (some (.inr (.inr false))) (some (.inl (w64 (t35_3 + 1)))))
    (some (.inr (.inl ())))
noncomputable def impl_PduOk_l1_4 (p0 : Pdu) (t35_4 : Int) : Option (Int ⊕ (Unit ⊕ Bool)) :=
  cond (decide (t35_4 < (p0.2.2.2.2.length : Int)))
    ((at? p0.2.2.2.2 t35_4).bind fun x38_4 =>
    (cond (decide (t35_4 ≥ 10))
      (some true)
      ((impl_OidOk x38_4.1).bind fun t45_4 =>
      some (!t45_4))).bind fun t47_4 =>
    (cond t47_4
      (some true)
      ((impl_ValOk x38_4.2).bind fun t51_4 =>
      some (!t51_4))).bind fun t53_4 =>
    cond t53_4 (some (.inr (.inr false))) (some (.inl (w64 (t35_4 + 1)))))
    (some (.inr (.inl ())))
noncomputable def impl_PduOk_l1_5 (p0 : Pdu) (t35_5 : Int) : Option (Int ⊕ (Unit ⊕ Bool)) :=
  cond (decide (t35_5 < (p0.2.2.2.2.length : Int)))
    ((at? p0.2.2.2.2 t35_5).bind fun x38_5 =>
    (cond (decide (t35_5 ≥ 10))
      (some true)
      ((impl_OidOk x38_5.1).bind fun t45_5 =>
      some (!t45_5))).bind fun t47_5 =>
    (cond t47_5
      (some true)
      ((impl_ValOk x38_5.2).bind fun t51_5 =>
      some (!t51_5))).bind fun t53_5 =>
    cond t53_5 (some (.inr (.inr false))) (some (.inl (w64 (t35_5 + 1)))))
    (some (.inr (.inl ())))
noncomputable def impl_PduOk_l1_6 (p0 : Pdu) (t35_6 : Int) : Option (Int ⊕ (Unit ⊕ Bool)) :=
  cond (decide (t35_6 < (p0.2.2.2.2.length : Int)))
    ((at? p0.2.2.2.2 t35_6).bind fun x38_6 =>
    (cond (decide (t35_6 ≥ 10))
      (some true)
      ((impl_OidOk x38_6.1).bind fun t45_6 =>
      some (!t45_6))).bind fun t47_6 =>
    (cond t47_6
      (some true)
      ((impl_ValOk x38_6.2).bind fun t51_6 =>
      some (!t51_6))).bind fun t53_6 =>
    cond t53_6 (some (.inr (.inr false))) (some (.inl (w64 (t35_6 + 1)))))
    (some (.inr (.inl ())))
noncomputable def impl_PduOk_l1_7 (p0 : Pdu) (t35_7 : Int) : Option (Int ⊕ (Unit ⊕ Bool)) :=
  cond (decide (t35_7 < (p0.2.2.2.2.length : Int)))
    ((at? p0.2.2.2.2 t35_7).bind fun x38_7 =>
    (cond (decide (t35_7 ≥ 10))
      (some true)
      ((impl_OidOk x38_7.1).bind fun t45_7 =>
      some (!t45_7))).bind fun t47_7 =>
    (cond t47_7
      (some true)
      ((impl_ValOk x38_7.2).bind fun t51_7 =>
      some (!t51_7))).bind fun t53_7 =>
    cond t53_7 (some (.inr (.inr false))) (some (.inl (w64 (t35_7 + 1)))))
    (some (.inr (.inl ())))
noncomputable def impl_PduOk_l1_8 (p0 : Pdu) (t35_8 : Int) : Option (Int ⊕ (Unit ⊕ Bool)) :=
  cond (decide (t35_8 < (p0.2.2.2.2.length : Int)))
    ((at? p0.2.2.2.2 t35_8).bind fun x38_8 =>
    (cond (decide (t35_8 ≥ 10))
      (some true)
      ((impl_OidOk x38_8.1).bind fun t45_8 =>
      some (!t45_8))).bind fun t47_8 =>
    (cond t47_8
      (some true)
      ((impl_ValOk x38_8.2).bind fun t51_8 =>
      some (!t51_8))).bind fun t53_8 =>
    cond t53_8 (some (.inr (.inr false))) (some (.inl (w64 (t35_8 + 1)))))
    (some (.inr (.inl ())))
noncomputable def impl_PduOk (p0 : Pdu) : Option Bool :=
  cond (p0.1 == 160)
    (cond (p0.1 == 160)
      ((cond (p0.2.2.1 != 0) (some true) (some (p0.2.2.2.1 != 0))).bind fun t18 =>
      cond t18
        (some false)
        ((loop (fun z => impl_PduOk_l1 p0 z) 0).bind (Sum.elim (fun d =>
          (impl_isInt p0.2.1).bind fun t57 =>
          some t57) (fun r => some r))))
      (cond (p0.1 == 162)
        (cond (p0.1 == 162)
          ((impl_in p0.2.2.1 0 1000).bind fun t24 =>
          (cond (!t24)
            (some true)
            ((impl_in p0.2.2.2.1 0 1000).bind fun t29 =>
            some (!t29))).bind fun t31 =>
          cond t31
            (some false)
            ((loop (fun z => impl_PduOk_l1_1 p0 z) 0).bind (Sum.elim (fun d_1 =>
              (impl_isInt p0.2.1).bind fun t57_1 =>
              some t57_1) (fun r_1 => some r_1))))
          (some false))
        (cond (p0.1 == 165)
          ((impl_in p0.2.2.1 0 1000).bind fun t24_1 =>
          (cond (!t24_1)
            (some true)
            ((impl_in p0.2.2.2.1 0 1000).bind fun t29_1 =>
            some (!t29_1))).bind fun t31_1 =>
          cond t31_1
            (some false)
            ((loop (fun z => impl_PduOk_l1_2 p0 z) 0).bind (Sum.elim (fun d_2 =>
              (impl_isInt p0.2.1).bind fun t57_2 =>
              some t57_2) (fun r_2 => some r_2))))
          (some false))))
    (cond (p0.1 == 161)
      (cond (p0.1 == 161)
        ((cond (p0.2.2.1 != 0) (some true) (some (p0.2.2.2.1 != 0))).bind fun t18_1 =>
        cond t18_1
          (some false)
          ((loop (fun z => impl_PduOk_l1_3 p0 z) 0).bind (Sum.elim (fun d_3 =>
            (impl_isInt p0.2.1).bind fun t57_3 =>
            some t57_3) (fun r_3 => some r_3))))
        (cond (p0.1 == 162)
          (cond (p0.1 == 162)
            ((impl_in p0.2.2.1 0 1000).bind fun t24_2 =>
            (cond (!t24_2)
              (some true)
              ((impl_in p0.2.2.2.1 0 1000).bind fun t29_2 =>
              some (!t29_2))).bind fun t31_2 =>
            cond t31_2
              (some false)
              ((loop (fun z => impl_PduOk_l1_4 p0 z) 0).bind (Sum.elim (fun d_4 =>
                (impl_isInt p0.2.1).bind fun t57_4 =>
                some t57_4) (fun r_4 => some r_4))))
            (some false))
          (cond (p0.1 == 165)
            ((impl_in p0.2.2.1 0 1000).bind fun t24_3 =>
            (cond (!t24_3)
              (some true)
              ((impl_in p0.2.2.2.1 0 1000).bind fun t29_3 =>
              some (!t29_3))).bind fun t31_3 =>
            cond t31_3
              (some false)
              ((loop (fun z => impl_PduOk_l1_5 p0 z) 0).bind (Sum.elim (fun d_5 =>
                (impl_isInt p0.2.1).bind fun t57_5 =>
                some t57_5) (fun r_5 => some r_5))))
            (some false))))
      (cond (p0.1 == 163)
        ((cond (p0.2.2.1 != 0) (some true) (some (p0.2.2.2.1 != 0))).bind fun t18_2 =>
        cond t18_2
          (some false)
          ((loop (fun z => impl_PduOk_l1_6 p0 z) 0).bind (Sum.elim (fun d_6 =>
            (impl_isInt p0.2.1).bind fun t57_6 =>
            some t57_6) (fun r_6 => some r_6))))
        (cond (p0.1 == 162)
          (cond (p0.1 == 162)
            ((impl_in p0.2.2.1 0 1000).bind fun t24_4 =>
            (cond (!t24_4)
              (some true)
              ((impl_in p0.2.2.2.1 0 1000).bind fun t29_4 =>
              some (!t29_4))).bind fun t31_4 =>
            cond t31_4
              (some false)
              ((loop (fun z => impl_PduOk_l1_7 p0 z) 0).bind (Sum.elim (fun d_7 =>
                (impl_isInt p0.2.1).bind fun t57_7 =>
                some t57_7) (fun r_7 => some r_7))))
            (some false))
          (cond (p0.1 == 165)
            ((impl_in p0.2.2.1 0 1000).bind fun t24_5 =>
            (cond (!t24_5)
              (some true)
              ((impl_in p0.2.2.2.1 0 1000).bind fun t29_5 =>
              some (!t29_5))).bind fun t31_5 =>
            cond t31_5
              (some false)
              ((loop (fun z => impl_PduOk_l1_8 p0 z) 0).bind (Sum.elim (fun d_8 =>
                (impl_isInt p0.2.1).bind fun t57_8 =>
                some t57_8) (fun r_8 => some r_8))))
            (some false)))))
noncomputable def F_impl_PduOk : Fn := ⟨[.val true cPdu false], [.val false (.one .bool) true], fun a => impl_PduOk a⟩
def a_impl_PduOk : List (Nat × LoopAnn) := [(1, ⟨⟨[(35, false, [.dat (.int .i64)]), (43, false, [.undef]), (44, false, [.undef]), (45, false, [.undef]), (46, false, [.undef]), (49, false, [.undef]), (50, false, [.undef]), (51, false, [.undef]), (52, false, [.undef])], []⟩,
    ⟨[], []⟩, some ⟨[(2, false, [.dat .bool])], []⟩⟩)]
theorem e_impl_PduOk : fnDen ⟨tis, fns_195, [], false⟩ a_impl_PduOk Tryz.f81 (codeOf Tryz.f81) [.val true cPdu false] [.val false (.one .bool) true] = fun a => impl_PduOk a := by kernel_rfl
theorem m_impl_PduOk : Meets Tryz.prog 81 F_impl_PduOk := by
  have h := meets_of (ann := a_impl_PduOk) (ps := [.val true cPdu false]) (rs := [.val false (.one .bool) true]) g_195 mixed Tryz.func81 (by kernel_rfl) (by kernel_rfl : Tryz.f81.body = some (codeOf Tryz.f81))
  rw [e_impl_PduOk] at h
  exact h
noncomputable def fns_81 : List (FuncId × Fn) := (81, F_impl_PduOk) :: fns_195
theorem g_81 : Good Tryz.prog ⟨tis, fns_81, [], false⟩ := g_195.cons m_impl_PduOk
noncomputable def impl_tlv (tag0 : Int) (body1 : List Int) : Option ((List Int) × Bool) :=
  (impl_in tag0 0 255).bind fun t8 =>
  (cond (!t8) (some true) (some (decide ((body1.length : Int) > 250)))).bind fun t14 =>
  cond t14
    (some ([], false))
    (cond (decide ((body1.length : Int) ≥ 128))
      ((app [IntKind.u8.wrap (tag0)] ([129] : List Int)).bind fun zs23 =>
      (app zs23 [IntKind.u8.wrap ((body1.length : Int))]).bind fun zs29 =>
      (app zs29 body1).bind fun zs31 =>
      some (zs31, true))
      ((app [IntKind.u8.wrap (tag0)] [IntKind.u8.wrap ((body1.length : Int))]).bind fun zs29_1 =>
      (app zs29_1 body1).bind fun zs31_1 =>
      some (zs31_1, true)))
noncomputable def F_impl_tlv : Fn := ⟨[.val false (.one (.int .i64)) false, .val false (.one (.sl (.one (.int .u8)))) false], [.val false (.one (.sl (.one (.int .u8)))) true, .val false (.one .bool) true], fun a => impl_tlv a.1 a.2⟩
def a_impl_tlv : List (Nat × LoopAnn) := []
theorem e_impl_tlv : fnDen ⟨tis, fns_81, [], false⟩ a_impl_tlv Tryz.f112 (codeOf Tryz.f112) [.val false (.one (.int .i64)) false, .val false (.one (.sl (.one (.int .u8)))) false] [.val false (.one (.sl (.one (.int .u8)))) true, .val false (.one .bool) true] = fun a => impl_tlv a.1 a.2 := by kernel_rfl
theorem m_impl_tlv : Meets Tryz.prog 112 F_impl_tlv := by
  have h := meets_of (ann := a_impl_tlv) (ps := [.val false (.one (.int .i64)) false, .val false (.one (.sl (.one (.int .u8)))) false]) (rs := [.val false (.one (.sl (.one (.int .u8)))) true, .val false (.one .bool) true]) g_81 mixed Tryz.func112 (by kernel_rfl) (by kernel_rfl : Tryz.f112.body = some (codeOf Tryz.f112))
  rw [e_impl_tlv] at h
  exact h
noncomputable def fns_112 : List (FuncId × Fn) := (112, F_impl_tlv) :: fns_81
theorem g_112 : Good Tryz.prog ⟨tis, fns_112, [], false⟩ := g_81.cons m_impl_tlv
noncomputable def impl_copyBytes (b0 : List Int) : Option (List Int) :=
  (app [] b0).bind fun zs4 =>
  some zs4
noncomputable def F_impl_copyBytes : Fn := ⟨[.val false (.one (.sl (.one (.int .u8)))) false], [.val false (.one (.sl (.one (.int .u8)))) true], fun a => impl_copyBytes a⟩
def a_impl_copyBytes : List (Nat × LoopAnn) := []
theorem e_impl_copyBytes : fnDen ⟨tis, fns_112, [], false⟩ a_impl_copyBytes Tryz.f111 (codeOf Tryz.f111) [.val false (.one (.sl (.one (.int .u8)))) false] [.val false (.one (.sl (.one (.int .u8)))) true] = fun a => impl_copyBytes a := by kernel_rfl
theorem m_impl_copyBytes : Meets Tryz.prog 111 F_impl_copyBytes := by
  have h := meets_of (ann := a_impl_copyBytes) (ps := [.val false (.one (.sl (.one (.int .u8)))) false]) (rs := [.val false (.one (.sl (.one (.int .u8)))) true]) g_112 mixed Tryz.func111 (by kernel_rfl) (by kernel_rfl : Tryz.f111.body = some (codeOf Tryz.f111))
  rw [e_impl_copyBytes] at h
  exact h
noncomputable def fns_111 : List (FuncId × Fn) := (111, F_impl_copyBytes) :: fns_112
theorem g_111 : Good Tryz.prog ⟨tis, fns_111, [], false⟩ := g_112.cons m_impl_copyBytes
noncomputable def impl_PutTlv (b0 : List Int) (tag1 : Int) (body2 : List Int) : Option (List Int) :=
  (impl_tlv tag1 body2).bind fun t12 =>
  (impl_copyBytes b0).bind fun t16 =>
  (app t16 t12.1).bind fun zs18 =>
  some zs18
noncomputable def F_impl_PutTlv : Fn := ⟨[.val false (.one (.sl (.one (.int .u8)))) false, .val false (.one (.int .i64)) false, .val false (.one (.sl (.one (.int .u8)))) false], [.val false (.one (.sl (.one (.int .u8)))) true], fun a => impl_PutTlv a.1 a.2.1 a.2.2⟩
def a_impl_PutTlv : List (Nat × LoopAnn) := []
theorem e_impl_PutTlv : fnDen ⟨tis, fns_111, [], false⟩ a_impl_PutTlv Tryz.f113 (codeOf Tryz.f113) [.val false (.one (.sl (.one (.int .u8)))) false, .val false (.one (.int .i64)) false, .val false (.one (.sl (.one (.int .u8)))) false] [.val false (.one (.sl (.one (.int .u8)))) true] = fun a => impl_PutTlv a.1 a.2.1 a.2.2 := by kernel_rfl
theorem m_impl_PutTlv : Meets Tryz.prog 113 F_impl_PutTlv := by
  have h := meets_of (ann := a_impl_PutTlv) (ps := [.val false (.one (.sl (.one (.int .u8)))) false, .val false (.one (.int .i64)) false, .val false (.one (.sl (.one (.int .u8)))) false]) (rs := [.val false (.one (.sl (.one (.int .u8)))) true]) g_111 mixed Tryz.func113 (by kernel_rfl) (by kernel_rfl : Tryz.f113.body = some (codeOf Tryz.f113))
  rw [e_impl_PutTlv] at h
  exact h
noncomputable def fns_113 : List (FuncId × Fn) := (113, F_impl_PutTlv) :: fns_111
theorem g_113 : Good Tryz.prog ⟨tis, fns_113, [], false⟩ := g_111.cons m_impl_PutTlv
noncomputable def impl_PutInt_l0 (n0_1 : Int) (k3 : Int) : Option (Int ⊕ Int) :=
  (cond (decide (k3 < 4))
    ((shl .i64 (-1) (w64 ((w64 (8 * k3)) - 1))).bind fun t16 =>
    (shl .i64 1 (w64 ((w64 (8 * k3)) - 1))).bind fun t20 =>
    (impl_in n0_1 t16 (w64 (t20 - 1))).bind fun t22 =>
    some (!t22))
    (some false)).bind fun t24 =>
  cond t24 (some (.inl (w64 (k3 + 1)))) (some (.inr k3))
noncomputable def impl_PutInt_l2 (n0_1 : Int) (i5 : Int) (out4 : List Int) : Option ((Int × List Int) ⊕ (List Int)) :=
  cond (decide (i5 ≥ 0))
    ((shr .i64 n0_1 (w64 (8 * i5))).bind fun t37 =>
    (app out4 [IntKind.u8.wrap (t37)]).bind fun zs40 =>
    some (.inl (w64 (i5 - 1), zs40)))
    (some (.inr out4))
noncomputable def impl_PutInt (n0 : Int) : Option (List Int) :=
  let n0_1 := max2 (-2147483648) (min2 n0 2147483647)
  (loop (fun z => impl_PutInt_l0 n0_1 z) 1).bind fun d =>
  (loop (fun z => impl_PutInt_l2 n0_1 z.1 z.2) (w64 (d - 1), [])).bind fun d_1 =>
  some d_1
noncomputable def F_impl_PutInt : Fn := ⟨[.val false (.one (.int .i64)) false], [.val false (.one (.sl (.one (.int .u8)))) true], fun a => impl_PutInt a⟩
def a_impl_PutInt : List (Nat × LoopAnn) := [(0, ⟨⟨[(3, false, [.dat (.int .i64)]), (12, false, [.undef]), (13, false, [.undef]), (14, false, [.undef]), (15, false, [.undef]), (16, false, [.undef]), (17, false, [.undef]), (18, false, [.undef]), (19, false, [.undef]), (20, false, [.undef]), (21, false, [.undef]), (22, false, [.undef]), (23, false, [.undef])], []⟩,
    ⟨[(3, false, [.dat (.int .i64)])], []⟩, none⟩),
  (2, ⟨⟨[(4, false, [.own 1000002000]), (5, false, [.dat (.int .i64)])], [(1000002000, .root (.one (.int .u8)) true)]⟩,
    ⟨[(4, false, [.own 1000002300])], [(1000002300, .root (.one (.int .u8)) true)]⟩, none⟩)]
theorem e_impl_PutInt : fnDen ⟨tis, fns_113, [], false⟩ a_impl_PutInt Tryz.f234 (codeOf Tryz.f234) [.val false (.one (.int .i64)) false] [.val false (.one (.sl (.one (.int .u8)))) true] = fun a => impl_PutInt a := by kernel_rfl
theorem m_impl_PutInt : Meets Tryz.prog 234 F_impl_PutInt := by
  have h := meets_of (ann := a_impl_PutInt) (ps := [.val false (.one (.int .i64)) false]) (rs := [.val false (.one (.sl (.one (.int .u8)))) true]) g_113 mixed Tryz.func234 (by kernel_rfl) (by kernel_rfl : Tryz.f234.body = some (codeOf Tryz.f234))
  rw [e_impl_PutInt] at h
  exact h
noncomputable def fns_234 : List (FuncId × Fn) := (234, F_impl_PutInt) :: fns_113
theorem g_234 : Good Tryz.prog ⟨tis, fns_234, [], false⟩ := g_113.cons m_impl_PutInt
noncomputable def impl_addNum (out0 : List Int) (tag1 : Int) (n2 : Int) : Option (List Int) :=
  (impl_PutInt n2).bind fun t10 =>
  (impl_PutTlv out0 tag1 t10).bind fun t11 =>
  some t11
noncomputable def F_impl_addNum : Fn := ⟨[.val false (.one (.sl (.one (.int .u8)))) false, .val false (.one (.int .i64)) false, .val false (.one (.int .i64)) false], [.val false (.one (.sl (.one (.int .u8)))) true], fun a => impl_addNum a.1 a.2.1 a.2.2⟩
def a_impl_addNum : List (Nat × LoopAnn) := []
theorem e_impl_addNum : fnDen ⟨tis, fns_234, [], false⟩ a_impl_addNum Tryz.f114 (codeOf Tryz.f114) [.val false (.one (.sl (.one (.int .u8)))) false, .val false (.one (.int .i64)) false, .val false (.one (.int .i64)) false] [.val false (.one (.sl (.one (.int .u8)))) true] = fun a => impl_addNum a.1 a.2.1 a.2.2 := by kernel_rfl
theorem m_impl_addNum : Meets Tryz.prog 114 F_impl_addNum := by
  have h := meets_of (ann := a_impl_addNum) (ps := [.val false (.one (.sl (.one (.int .u8)))) false, .val false (.one (.int .i64)) false, .val false (.one (.int .i64)) false]) (rs := [.val false (.one (.sl (.one (.int .u8)))) true]) g_234 mixed Tryz.func114 (by kernel_rfl) (by kernel_rfl : Tryz.f114.body = some (codeOf Tryz.f114))
  rw [e_impl_addNum] at h
  exact h
noncomputable def fns_114 : List (FuncId × Fn) := (114, F_impl_addNum) :: fns_234
theorem g_114 : Good Tryz.prog ⟨tis, fns_114, [], false⟩ := g_234.cons m_impl_addNum
noncomputable def impl_PutOid_l2 (x14 : Int) (k6 : Int) : Option (Int ⊕ Int) :=
  (shr .i64 x14 (w64 (7 * k6))).bind fun t19 =>
  cond (decide (t19 > 127)) (some (.inl (w64 (k6 + 1)))) (some (.inr k6))
noncomputable def impl_PutOid_l4 (x14 : Int) (k6_2 : Int) (out3_1 : List Int) : Option ((Int × List Int) ⊕ (List Int)) :=
  cond (decide (k6_2 > 0))
    ((shr .i64 x14 (w64 (7 * k6_2))).bind fun t31 =>
    (app out3_1 [IntKind.u8.wrap (w64 ((band .i64 t31 127) + 128))]).bind fun zs36 =>
    some (.inl (w64 (k6_2 - 1), zs36)))
    (some (.inr out3_1))
noncomputable def impl_PutOid_l0 (o0 : List Int) (t12 : Int) (out3 : List Int) : Option ((Int × List Int) ⊕ (List Int)) :=
  cond (decide (t12 < (o0.length : Int)))
    ((at? o0 t12).bind fun x14 =>
    (loop (fun z => impl_PutOid_l2 x14 z) 0).bind fun d =>
    (loop (fun z => impl_PutOid_l4 x14 z.1 z.2) (d, out3)).bind fun d_1 =>
    (app d_1 [IntKind.u8.wrap (band .i64 x14 127)]).bind fun zs42 =>
    some (.inl (w64 (t12 + 1), zs42)))
    (some (.inr out3))
noncomputable def impl_PutOid (o0 : List Int) : Option (List Int) :=
  (impl_OidOk o0).bind fun t8 =>
  cond (!t8)
    (some [])
    ((loop (fun z => impl_PutOid_l0 o0 z.1 z.2) (0, [])).bind fun d_2 =>
    some d_2)
noncomputable def F_impl_PutOid : Fn := ⟨[.val false (.one (.sl (.one (.int .i64)))) false], [.val false (.one (.sl (.one (.int .u8)))) true], fun a => impl_PutOid a⟩
def a_impl_PutOid : List (Nat × LoopAnn) := [(0, ⟨⟨[(3, false, [.own 1000000000]), (12, false, [.dat (.int .i64)])], [(1000000000, .root (.one (.int .u8)) true)]⟩,
    ⟨[(3, false, [.own 1000000300])], [(1000000300, .root (.one (.int .u8)) true)]⟩, none⟩),
  (2, ⟨⟨[(6, false, [.dat (.int .i64)])], []⟩,
    ⟨[(6, false, [.dat (.int .i64)])], []⟩, none⟩),
  (4, ⟨⟨[(3, false, [.own 1000004000]), (6, false, [.dat (.int .i64)])], [(1000004000, .root (.one (.int .u8)) true)]⟩,
    ⟨[(3, false, [.own 1000004300])], [(1000004300, .root (.one (.int .u8)) true)]⟩, none⟩)]
theorem e_impl_PutOid : fnDen ⟨tis, fns_114, [], false⟩ a_impl_PutOid Tryz.f202 (codeOf Tryz.f202) [.val false (.one (.sl (.one (.int .i64)))) false] [.val false (.one (.sl (.one (.int .u8)))) true] = fun a => impl_PutOid a := by kernel_rfl
theorem m_impl_PutOid : Meets Tryz.prog 202 F_impl_PutOid := by
  have h := meets_of (ann := a_impl_PutOid) (ps := [.val false (.one (.sl (.one (.int .i64)))) false]) (rs := [.val false (.one (.sl (.one (.int .u8)))) true]) g_114 mixed Tryz.func202 (by kernel_rfl) (by kernel_rfl : Tryz.f202.body = some (codeOf Tryz.f202))
  rw [e_impl_PutOid] at h
  exact h
noncomputable def fns_202 : List (FuncId × Fn) := (202, F_impl_PutOid) :: fns_114
theorem g_202 : Good Tryz.prog ⟨tis, fns_202, [], false⟩ := g_114.cons m_impl_PutOid
noncomputable def impl_PutVal (b0 : List Int) (v1 : Val) : Option (List Int) :=
  (impl_ValOk v1).bind fun t7 =>
  cond (!t7)
    ((impl_copyBytes b0).bind fun t10 =>
    some t10)
    (cond (v1.1 == 2)
      ((impl_PutInt v1.2.1).bind fun t17 =>
      (impl_PutTlv b0 v1.1 t17).bind fun t32 =>
      some t32)
      (cond (v1.1 == 4)
        ((impl_PutTlv b0 v1.1 (intsOf v1.2.2.1)).bind fun t32_1 =>
        some t32_1)
        (cond (v1.1 == 6)
          ((impl_PutOid v1.2.2.2).bind fun t27 =>
          (impl_PutTlv b0 v1.1 t27).bind fun t32_2 =>
          some t32_2)
          ((impl_PutTlv b0 v1.1 []).bind fun t32_3 =>
          some t32_3))))
noncomputable def F_impl_PutVal : Fn := ⟨[.val false (.one (.sl (.one (.int .u8)))) false, .val true cVal false], [.val false (.one (.sl (.one (.int .u8)))) true], fun a => impl_PutVal a.1 a.2⟩
def a_impl_PutVal : List (Nat × LoopAnn) := []
theorem e_impl_PutVal : fnDen ⟨tis, fns_202, [], false⟩ a_impl_PutVal Tryz.f201 (codeOf Tryz.f201) [.val false (.one (.sl (.one (.int .u8)))) false, .val true cVal false] [.val false (.one (.sl (.one (.int .u8)))) true] = fun a => impl_PutVal a.1 a.2 := by kernel_rfl
theorem m_impl_PutVal : Meets Tryz.prog 201 F_impl_PutVal := by
  have h := meets_of (ann := a_impl_PutVal) (ps := [.val false (.one (.sl (.one (.int .u8)))) false, .val true cVal false]) (rs := [.val false (.one (.sl (.one (.int .u8)))) true]) g_202 mixed Tryz.func201 (by kernel_rfl) (by kernel_rfl : Tryz.f201.body = some (codeOf Tryz.f201))
  rw [e_impl_PutVal] at h
  exact h
noncomputable def fns_201 : List (FuncId × Fn) := (201, F_impl_PutVal) :: fns_202
theorem g_201 : Good Tryz.prog ⟨tis, fns_201, [], false⟩ := g_202.cons m_impl_PutVal
noncomputable def impl_PutPdu_l0 (p0 : Pdu) (t18 : Int) (t3 : List Int) : Option ((Int × List Int) ⊕ ((List Int) ⊕ (List Int))) :=
  cond (decide (t18 < (p0.2.2.2.2.length : Int)))
    ((at? p0.2.2.2.2 t18).bind fun x20 =>
    (impl_PutOid x20.1).bind fun t25 =>
    (impl_PutTlv [] 6 t25).bind fun t26 =>
    (impl_PutVal t26 x20.2).bind fun t29 =>
    (impl_tlv 48 t29).bind fun t30 =>
    cond (!t30.2)
      (some (.inr (.inr [])))
      ((app t3 t30.1).bind fun zs37 =>
      some (.inl (w64 (t18 + 1), zs37))))
    (some (.inr (.inl t3)))
noncomputable def impl_PutPdu (p0 : Pdu) : Option (List Int) :=
  (impl_PduOk p0).bind fun t13 =>
  cond (!t13)
    (some [])
    ((loop (fun z => impl_PutPdu_l0 p0 z.1 z.2) (0, [])).bind (Sum.elim (fun d =>
      (impl_tlv 48 d).bind fun t41 =>
      cond (!t41.2)
        (some [])
        ((impl_addNum [] 2 p0.2.1).bind fun t51 =>
        (impl_addNum t51 2 p0.2.2.1).bind fun t54 =>
        (impl_addNum t54 2 p0.2.2.2.1).bind fun t57 =>
        (app t57 t41.1).bind fun zs59 =>
        (impl_tlv p0.1 zs59).bind fun t60 =>
        cond (!t60.2) (some []) (some t60.1))) (fun r => some r)))
noncomputable def F_impl_PutPdu : Fn := ⟨[.val true cPdu false], [.val false (.one (.sl (.one (.int .u8)))) true], fun a => impl_PutPdu a⟩
def a_impl_PutPdu : List (Nat × LoopAnn) := [(0, ⟨⟨[(3, false, [.own 1000000000]), (18, false, [.dat (.int .i64)])], [(1000000000, .root (.one (.int .u8)) true)]⟩,
    ⟨[(3, false, [.own 1000000300])], [(1000000300, .root (.one (.int .u8)) true)]⟩, some ⟨[(2, false, [.own 1000000600])], [(1000000600, .root (.one (.int .u8)) true)]⟩⟩)]
theorem e_impl_PutPdu : fnDen ⟨tis, fns_201, [], false⟩ a_impl_PutPdu Tryz.f88 (codeOf Tryz.f88) [.val true cPdu false] [.val false (.one (.sl (.one (.int .u8)))) true] = fun a => impl_PutPdu a := by kernel_rfl
theorem m_impl_PutPdu : Meets Tryz.prog 88 F_impl_PutPdu := by
  have h := meets_of (ann := a_impl_PutPdu) (ps := [.val true cPdu false]) (rs := [.val false (.one (.sl (.one (.int .u8)))) true]) g_201 mixed Tryz.func88 (by kernel_rfl) (by kernel_rfl : Tryz.f88.body = some (codeOf Tryz.f88))
  rw [e_impl_PutPdu] at h
  exact h
noncomputable def fns_88 : List (FuncId × Fn) := (88, F_impl_PutPdu) :: fns_201
theorem g_88 : Good Tryz.prog ⟨tis, fns_88, [], false⟩ := g_201.cons m_impl_PutPdu
noncomputable def impl_Fits (p0 : Pdu) : Option Bool :=
  (impl_PutPdu p0).bind fun t4 =>
  (impl_in (t4.length : Int) 1 120).bind fun t6 =>
  some t6
noncomputable def F_impl_Fits : Fn := ⟨[.val true cPdu false], [.val false (.one .bool) true], fun a => impl_Fits a⟩
def a_impl_Fits : List (Nat × LoopAnn) := []
theorem e_impl_Fits : fnDen ⟨tis, fns_88, [], false⟩ a_impl_Fits Tryz.f22 (codeOf Tryz.f22) [.val true cPdu false] [.val false (.one .bool) true] = fun a => impl_Fits a := by kernel_rfl
theorem m_impl_Fits : Meets Tryz.prog 22 F_impl_Fits := by
  have h := meets_of (ann := a_impl_Fits) (ps := [.val true cPdu false]) (rs := [.val false (.one .bool) true]) g_88 mixed Tryz.func22 (by kernel_rfl) (by kernel_rfl : Tryz.f22.body = some (codeOf Tryz.f22))
  rw [e_impl_Fits] at h
  exact h
noncomputable def fns_22 : List (FuncId × Fn) := (22, F_impl_Fits) :: fns_88
theorem g_22 : Good Tryz.prog ⟨tis, fns_22, [], false⟩ := g_88.cons m_impl_Fits
noncomputable def impl_copyFdb (l0 : List Fent) : Option (List Fent) :=
  (app [] l0).bind fun zs4 =>
  some zs4
noncomputable def F_impl_copyFdb : Fn := ⟨[.val false (.one (.sl cFent)) false], [.val false (.one (.sl cFent)) true], fun a => impl_copyFdb a⟩
def a_impl_copyFdb : List (Nat × LoopAnn) := []
theorem e_impl_copyFdb : fnDen ⟨tis, fns_22, [], false⟩ a_impl_copyFdb Tryz.f192 (codeOf Tryz.f192) [.val false (.one (.sl cFent)) false] [.val false (.one (.sl cFent)) true] = fun a => impl_copyFdb a := by kernel_rfl
theorem m_impl_copyFdb : Meets Tryz.prog 192 F_impl_copyFdb := by
  have h := meets_of (ann := a_impl_copyFdb) (ps := [.val false (.one (.sl cFent)) false]) (rs := [.val false (.one (.sl cFent)) true]) g_22 mixed Tryz.func192 (by kernel_rfl) (by kernel_rfl : Tryz.f192.body = some (codeOf Tryz.f192))
  rw [e_impl_copyFdb] at h
  exact h
noncomputable def fns_192 : List (FuncId × Fn) := (192, F_impl_copyFdb) :: fns_22
theorem g_192 : Good Tryz.prog ⟨tis, fns_192, [], false⟩ := g_22.cons m_impl_copyFdb
noncomputable def impl_copyVtab (v0 : Vtab) : Option Vtab :=
  (app [] v0.1).bind fun zs5 =>
  (impl_copyInts v0.2).bind fun t8 =>
  some (zs5, t8)
noncomputable def F_impl_copyVtab : Fn := ⟨[.val true cVtab false], [.val true cVtab true], fun a => impl_copyVtab a⟩
def a_impl_copyVtab : List (Nat × LoopAnn) := []
theorem e_impl_copyVtab : fnDen ⟨tis, fns_192, [], false⟩ a_impl_copyVtab Tryz.f193 (codeOf Tryz.f193) [.val true cVtab false] [.val true cVtab true] = fun a => impl_copyVtab a := by kernel_rfl
theorem m_impl_copyVtab : Meets Tryz.prog 193 F_impl_copyVtab := by
  have h := meets_of (ann := a_impl_copyVtab) (ps := [.val true cVtab false]) (rs := [.val true cVtab true]) g_192 mixed Tryz.func193 (by kernel_rfl) (by kernel_rfl : Tryz.f193.body = some (codeOf Tryz.f193))
  rw [e_impl_copyVtab] at h
  exact h
noncomputable def fns_193 : List (FuncId × Fn) := (193, F_impl_copyVtab) :: fns_192
theorem g_193 : Good Tryz.prog ⟨tis, fns_193, [], false⟩ := g_192.cons m_impl_copyVtab
noncomputable def impl_copyBridge (b0 : Bridge) : Option Bridge :=
  (app [] b0.2.2.1).bind fun zs5 =>
  (impl_copyFdb b0.2.2.2.1).bind fun t9 =>
  (impl_copyVtab (b0.2.2.2.2.1, b0.2.2.2.2.2.1)).bind fun t12 =>
  some (b0.1, b0.2.1, zs5, t9, t12.1, t12.2, b0.2.2.2.2.2.2.1, b0.2.2.2.2.2.2.2.1, b0.2.2.2.2.2.2.2.2.1, b0.2.2.2.2.2.2.2.2.2.1, b0.2.2.2.2.2.2.2.2.2.2)
noncomputable def F_impl_copyBridge : Fn := ⟨[.val true cBridge false], [.val true cBridge true], fun a => impl_copyBridge a⟩
def a_impl_copyBridge : List (Nat × LoopAnn) := []
theorem e_impl_copyBridge : fnDen ⟨tis, fns_193, [], false⟩ a_impl_copyBridge Tryz.f80 (codeOf Tryz.f80) [.val true cBridge false] [.val true cBridge true] = fun a => impl_copyBridge a := by kernel_rfl
theorem m_impl_copyBridge : Meets Tryz.prog 80 F_impl_copyBridge := by
  have h := meets_of (ann := a_impl_copyBridge) (ps := [.val true cBridge false]) (rs := [.val true cBridge true]) g_193 mixed Tryz.func80 (by kernel_rfl) (by kernel_rfl : Tryz.f80.body = some (codeOf Tryz.f80))
  rw [e_impl_copyBridge] at h
  exact h
noncomputable def fns_80 : List (FuncId × Fn) := (80, F_impl_copyBridge) :: fns_193
theorem g_80 : Good Tryz.prog ⟨tis, fns_80, [], false⟩ := g_193.cons m_impl_copyBridge
noncomputable def impl_numbered (o0 : List Int) (low1 : Int) (high2 : Int) (head3 : List Int) : Option Bool :=
  cond ((o0.length : Int) == (w64 ((head3.length : Int) + 4)))
    ((cut o0 0 (w64 ((o0.length : Int) - 1))).bind fun t20 =>
    (app ([1, 3, 1] : List Int) head3).bind fun zs23 =>
    (impl_SameOid t20 zs23).bind fun t24 =>
    (cond t24
      ((at? o0 (w64 ((o0.length : Int) - 1))).bind fun x31 =>
      (impl_in x31 low1 high2).bind fun t35 =>
      some t35)
      (some false)).bind fun t36 =>
    some t36)
    ((some false).bind fun t36_1 =>
    some t36_1)
noncomputable def F_impl_numbered : Fn := ⟨[.val false (.one (.sl (.one (.int .i64)))) false, .val false (.one (.int .i64)) false, .val false (.one (.int .i64)) false, .val false (.one (.sl (.one (.int .i64)))) false], [.val false (.one .bool) true], fun a => impl_numbered a.1 a.2.1 a.2.2.1 a.2.2.2⟩
def a_impl_numbered : List (Nat × LoopAnn) := []
theorem e_impl_numbered : fnDen ⟨tis, fns_80, [], false⟩ a_impl_numbered Tryz.f307 (codeOf Tryz.f307) [.val false (.one (.sl (.one (.int .i64)))) false, .val false (.one (.int .i64)) false, .val false (.one (.int .i64)) false, .val false (.one (.sl (.one (.int .i64)))) false] [.val false (.one .bool) true] = fun a => impl_numbered a.1 a.2.1 a.2.2.1 a.2.2.2 := by kernel_rfl
theorem m_impl_numbered : Meets Tryz.prog 307 F_impl_numbered := by
  have h := meets_of (ann := a_impl_numbered) (ps := [.val false (.one (.sl (.one (.int .i64)))) false, .val false (.one (.int .i64)) false, .val false (.one (.int .i64)) false, .val false (.one (.sl (.one (.int .i64)))) false]) (rs := [.val false (.one .bool) true]) g_80 mixed Tryz.func307 (by kernel_rfl) (by kernel_rfl : Tryz.f307.body = some (codeOf Tryz.f307))
  rw [e_impl_numbered] at h
  exact h
noncomputable def fns_307 : List (FuncId × Fn) := (307, F_impl_numbered) :: fns_80
theorem g_307 : Good Tryz.prog ⟨tis, fns_307, [], false⟩ := g_80.cons m_impl_numbered
noncomputable def impl_canSet (b0 : Bridge) (o1 : List Int) : Option Bool :=
  (impl_numbered o1 1 1 ([1] : List Int)).bind fun t11 =>
  (cond t11
    (some true)
    ((impl_numbered o1 1 (b0.2.2.1.length : Int) ([2, 2] : List Int)).bind fun t16 =>
    some t16)).bind fun t17 =>
  (cond t17
    (some true)
    ((impl_numbered o1 1 (b0.2.2.1.length : Int) ([2, 4] : List Int)).bind fun t22 =>
    some t22)).bind fun t23 =>
  (cond t23
    (some true)
    ((impl_numbered o1 1 99 ([3, 1] : List Int)).bind fun t27 =>
    some t27)).bind fun t28 =>
  cond t28
    (some true)
    ((impl_numbered o1 1 99 ([3, 2] : List Int)).bind fun t31 =>
    (cond t31
      (some true)
      ((impl_numbered o1 1 99 ([3, 3] : List Int)).bind fun t35 =>
      some t35)).bind fun t36 =>
    (cond t36
      ((at? o1 5).bind fun x41 =>
      (impl_RowAt (b0.2.2.2.2.1, b0.2.2.2.2.2.1) x41).bind fun t43 =>
      some (decide (t43 ≥ 0)))
      (some false)).bind fun t45 =>
    some t45)
noncomputable def F_impl_canSet : Fn := ⟨[.val true cBridge false, .val false (.one (.sl (.one (.int .i64)))) false], [.val false (.one .bool) true], fun a => impl_canSet a.1 a.2⟩
def a_impl_canSet : List (Nat × LoopAnn) := []
theorem e_impl_canSet : fnDen ⟨tis, fns_307, [], false⟩ a_impl_canSet Tryz.f203 (codeOf Tryz.f203) [.val true cBridge false, .val false (.one (.sl (.one (.int .i64)))) false] [.val false (.one .bool) true] = fun a => impl_canSet a.1 a.2 := by kernel_rfl
theorem m_impl_canSet : Meets Tryz.prog 203 F_impl_canSet := by
  have h := meets_of (ann := a_impl_canSet) (ps := [.val true cBridge false, .val false (.one (.sl (.one (.int .i64)))) false]) (rs := [.val false (.one .bool) true]) g_307 mixed Tryz.func203 (by kernel_rfl) (by kernel_rfl : Tryz.f203.body = some (codeOf Tryz.f203))
  rw [e_impl_canSet] at h
  exact h
noncomputable def fns_203 : List (FuncId × Fn) := (203, F_impl_canSet) :: fns_307
theorem g_203 : Good Tryz.prog ⟨tis, fns_203, [], false⟩ := g_307.cons m_impl_canSet
noncomputable def impl_withRow_l0 (v0 : Vtab) (r1 : Vrow) (k7 : Int) : Option (Int ⊕ Int) :=
  (cond (decide (k7 < (v0.1.length : Int)))
    ((at? v0.1 k7).bind fun x31 =>
    some (decide (x31.1 ≤ r1.1)))
    (some false)).bind fun t37 =>
  cond t37 (some (.inl (w64 (k7 + 1)))) (some (.inr k7))
noncomputable def impl_withRow (v0 : Vtab) (r1 : Vrow) : Option Vtab :=
  (impl_copyVtab v0).bind fun t9 =>
  (impl_RowAt v0 r1.1).bind fun t13 =>
  cond (decide (t13 ≥ 0))
    ((ix t9.1.length t13).bind fun j20 =>
    (t9.1[j20]?).bind fun x =>
    some (t9.1.set j20 r1, t9.2))
    ((loop (fun z => impl_withRow_l0 v0 r1 z) 0).bind fun d =>
    (cut v0.1 0 d).bind fun t43 =>
    (app [] t43).bind fun zs44 =>
    (app zs44 [r1]).bind fun zs47 =>
    (cut v0.1 d (v0.1.length : Int)).bind fun t51 =>
    (app zs47 t51).bind fun zs52 =>
    some (zs52, t9.2))
noncomputable def F_impl_withRow : Fn := ⟨[.val true cVtab false, .val true cVrow false], [.val true cVtab true], fun a => impl_withRow a.1 a.2⟩
def a_impl_withRow : List (Nat × LoopAnn) := [(0, ⟨⟨[(7, false, [.dat (.int .i64)]), (28, false, [.undef]), (29, false, [.undef]), (30, false, [.undef]), (31, false, [.undef]), (32, false, [.undef]), (33, false, [.undef]), (34, false, [.undef]), (35, false, [.undef]), (36, false, [.undef])], []⟩,
    ⟨[(7, false, [.dat (.int .i64)])], []⟩, none⟩)]
theorem e_impl_withRow : fnDen ⟨tis, fns_203, [], false⟩ a_impl_withRow Tryz.f353 (codeOf Tryz.f353) [.val true cVtab false, .val true cVrow false] [.val true cVtab true] = fun a => impl_withRow a.1 a.2 := by kernel_rfl
theorem m_impl_withRow : Meets Tryz.prog 353 F_impl_withRow := by
  have h := meets_of (ann := a_impl_withRow) (ps := [.val true cVtab false, .val true cVrow false]) (rs := [.val true cVtab true]) g_203 mixed Tryz.func353 (by kernel_rfl) (by kernel_rfl : Tryz.f353.body = some (codeOf Tryz.f353))
  rw [e_impl_withRow] at h
  exact h
noncomputable def fns_353 : List (FuncId × Fn) := (353, F_impl_withRow) :: fns_203
theorem g_353 : Good Tryz.prog ⟨tis, fns_353, [], false⟩ := g_203.cons m_impl_withRow
noncomputable def impl_withoutRow (v0 : Vtab) (id1 : Int) : Option Vtab :=
  (impl_copyVtab v0).bind fun t8 =>
  (impl_RowAt v0 id1).bind fun t11 =>
  cond (decide (t11 ≥ 0))
    ((cut v0.1 0 t11).bind fun t17 =>
    (app [] t17).bind fun zs18 =>
    (cut v0.1 (w64 (t11 + 1)) (v0.1.length : Int)).bind fun t23 =>
    (app zs18 t23).bind fun zs24 =>
    some (zs24, t8.2))
    (some t8)
noncomputable def F_impl_withoutRow : Fn := ⟨[.val true cVtab false, .val false (.one (.int .i64)) false], [.val true cVtab true], fun a => impl_withoutRow a.1 a.2⟩
def a_impl_withoutRow : List (Nat × LoopAnn) := []
theorem e_impl_withoutRow : fnDen ⟨tis, fns_353, [], false⟩ a_impl_withoutRow Tryz.f354 (codeOf Tryz.f354) [.val true cVtab false, .val false (.one (.int .i64)) false] [.val true cVtab true] = fun a => impl_withoutRow a.1 a.2 := by kernel_rfl
theorem m_impl_withoutRow : Meets Tryz.prog 354 F_impl_withoutRow := by
  have h := meets_of (ann := a_impl_withoutRow) (ps := [.val true cVtab false, .val false (.one (.int .i64)) false]) (rs := [.val true cVtab true]) g_353 mixed Tryz.func354 (by kernel_rfl) (by kernel_rfl : Tryz.f354.body = some (codeOf Tryz.f354))
  rw [e_impl_withoutRow] at h
  exact h
noncomputable def fns_354 : List (FuncId × Fn) := (354, F_impl_withoutRow) :: fns_353
theorem g_354 : Good Tryz.prog ⟨tis, fns_354, [], false⟩ := g_353.cons m_impl_withoutRow
noncomputable def impl_Bridge_setRow (p0 : Bridge) (i1 : Int) (a2 : Int) (a3 : Int) : Option (Bridge × Int) :=
  (impl_RowAt (p0.2.2.2.2.1, p0.2.2.2.2.2.1) a2).bind fun t15 =>
  cond (i1 == 1)
    ((cond (a3 == 4) (some (decide (t15 < 0))) (some false)).bind fun t24 =>
    (cond t24 (some (decide ((p0.2.2.2.2.1.length : Int) < 6))) (some false)).bind fun t33 =>
    cond t33
      ((impl_withRow (p0.2.2.2.2.1, p0.2.2.2.2.2.1) (a2, 0, 0)).bind fun t41 =>
      some ((p0.1, p0.2.1, p0.2.2.1, p0.2.2.2.1, t41.1, t41.2, p0.2.2.2.2.2.2.1, p0.2.2.2.2.2.2.2.1, p0.2.2.2.2.2.2.2.2.1, p0.2.2.2.2.2.2.2.2.2.1, p0.2.2.2.2.2.2.2.2.2.2), 0))
      ((cond (a3 == 6) (some (decide (t15 ≥ 0))) (some false)).bind fun t50 =>
      cond t50
        ((impl_withoutRow (p0.2.2.2.2.1, p0.2.2.2.2.2.1) a2).bind fun t57 =>
        some ((p0.1, p0.2.1, p0.2.2.1, p0.2.2.2.1, t57.1, t57.2, p0.2.2.2.2.2.2.1, p0.2.2.2.2.2.2.2.1, p0.2.2.2.2.2.2.2.2.1, p0.2.2.2.2.2.2.2.2.2.1, p0.2.2.2.2.2.2.2.2.2.2), 0))
        (some (p0, 2))))
    ((impl_allPorts (p0.2.2.1.length : Int)).bind fun t66 =>
    (impl_in a3 0 t66).bind fun t67 =>
    cond (!t67)
      (some (p0, 2))
      (cond (i1 == 2)
        ((ix p0.2.2.2.2.1.length t15).bind fun j78 =>
        (p0.2.2.2.2.1[j78]?).bind fun x =>
        some ((p0.1, p0.2.1, p0.2.2.1, p0.2.2.2.1, p0.2.2.2.2.1.set j78 (x.1, a3, x.2.2), p0.2.2.2.2.2.1, p0.2.2.2.2.2.2.1, p0.2.2.2.2.2.2.2.1, p0.2.2.2.2.2.2.2.2.1, p0.2.2.2.2.2.2.2.2.2.1, p0.2.2.2.2.2.2.2.2.2.2), 0))
        ((ix p0.2.2.2.2.1.length t15).bind fun j87 =>
        (p0.2.2.2.2.1[j87]?).bind fun x_1 =>
        some ((p0.1, p0.2.1, p0.2.2.1, p0.2.2.2.1, p0.2.2.2.2.1.set j87 (x_1.1, x_1.2.1, a3), p0.2.2.2.2.2.1, p0.2.2.2.2.2.2.1, p0.2.2.2.2.2.2.2.1, p0.2.2.2.2.2.2.2.2.1, p0.2.2.2.2.2.2.2.2.2.1, p0.2.2.2.2.2.2.2.2.2.2), 0))))
noncomputable def F_impl_Bridge_setRow : Fn := ⟨[.ptr cBridge true, .val false (.one (.int .i64)) false, .val false (.one (.int .i64)) false, .val false (.one (.int .i64)) false], [.val false (.one (.int .i64)) true], fun a => impl_Bridge_setRow a.1 a.2.1 a.2.2.1 a.2.2.2⟩
def a_impl_Bridge_setRow : List (Nat × LoopAnn) := []
theorem e_impl_Bridge_setRow : fnDen ⟨tis, fns_354, [], false⟩ a_impl_Bridge_setRow Tryz.f308 (codeOf Tryz.f308) [.ptr cBridge true, .val false (.one (.int .i64)) false, .val false (.one (.int .i64)) false, .val false (.one (.int .i64)) false] [.val false (.one (.int .i64)) true] = fun a => impl_Bridge_setRow a.1 a.2.1 a.2.2.1 a.2.2.2 := by kernel_rfl
theorem m_impl_Bridge_setRow : Meets Tryz.prog 308 F_impl_Bridge_setRow := by
  have h := meets_of (ann := a_impl_Bridge_setRow) (ps := [.ptr cBridge true, .val false (.one (.int .i64)) false, .val false (.one (.int .i64)) false, .val false (.one (.int .i64)) false]) (rs := [.val false (.one (.int .i64)) true]) g_354 mixed Tryz.func308 (by kernel_rfl) (by kernel_rfl : Tryz.f308.body = some (codeOf Tryz.f308))
  rw [e_impl_Bridge_setRow] at h
  exact h
noncomputable def fns_308 : List (FuncId × Fn) := (308, F_impl_Bridge_setRow) :: fns_354
theorem g_308 : Good Tryz.prog ⟨tis, fns_308, [], false⟩ := g_354.cons m_impl_Bridge_setRow
noncomputable def impl_Bridge_setThing (p0 : Bridge) (i1 : List Int) (a2 : Val) : Option (Bridge × Int) :=
  (at? i1 3).bind fun x9 =>
  (cond (x9 == 1) (some (a2.1 != 4)) (some false)).bind fun t17 =>
  (cond t17
    (some true)
    ((cond (!(x9 == 1)) (some (a2.1 != 2)) (some false)).bind fun t25 =>
    some t25)).bind fun t26 =>
  cond t26
    (some (p0, 1))
    (cond (x9 == 1)
      (cond (decide ((a2.2.2.1.length : Int) > 10))
        (some (p0, 2))
        (some ((p0.1, a2.2.2.1, p0.2.2.1, p0.2.2.2.1, p0.2.2.2.2.1, p0.2.2.2.2.2.1, p0.2.2.2.2.2.2.1, p0.2.2.2.2.2.2.2.1, p0.2.2.2.2.2.2.2.2.1, p0.2.2.2.2.2.2.2.2.2.1, p0.2.2.2.2.2.2.2.2.2.2), 0)))
      ((at? i1 3).bind fun x52 =>
      cond (x52 == 3)
        ((at? i1 4).bind fun x57 =>
        (at? i1 5).bind fun x60 =>
        (impl_Bridge_setRow p0 x57 x60 a2.2.1).bind fun t64 =>
        some t64)
        ((at? i1 4).bind fun x67 =>
        cond (x67 == 2)
          ((impl_in a2.2.1 1 1000).bind fun t72 =>
          cond (!t72)
            (some (p0, 2))
            ((at? i1 5).bind fun x79 =>
            (ix p0.2.2.1.length (w64 (x79 - 1))).bind fun j84 =>
            (p0.2.2.1[j84]?).bind fun x =>
            some ((p0.1, p0.2.1, p0.2.2.1.set j84 (x.1, a2.2.1, x.2.2.1, x.2.2.2.1, x.2.2.2.2.1, x.2.2.2.2.2.1, x.2.2.2.2.2.2.1, x.2.2.2.2.2.2.2), p0.2.2.2.1, p0.2.2.2.2.1, p0.2.2.2.2.2.1, p0.2.2.2.2.2.2.1, p0.2.2.2.2.2.2.2.1, p0.2.2.2.2.2.2.2.2.1, p0.2.2.2.2.2.2.2.2.2.1, p0.2.2.2.2.2.2.2.2.2.2), 0)))
          ((at? i1 5).bind fun x33 =>
          (ix p0.2.2.2.2.2.1.length (w64 (x33 - 1))).bind fun j38 =>
          (p0.2.2.2.2.2.1[j38]?).bind fun x_1 =>
          some ((p0.1, p0.2.1, p0.2.2.1, p0.2.2.2.1, p0.2.2.2.2.1, p0.2.2.2.2.2.1.set j38 a2.2.1, p0.2.2.2.2.2.2.1, p0.2.2.2.2.2.2.2.1, p0.2.2.2.2.2.2.2.2.1, p0.2.2.2.2.2.2.2.2.2.1, p0.2.2.2.2.2.2.2.2.2.2), 0)))))
noncomputable def F_impl_Bridge_setThing : Fn := ⟨[.ptr cBridge true, .val false (.one (.sl (.one (.int .i64)))) false, .val true cVal false], [.val false (.one (.int .i64)) true], fun a => impl_Bridge_setThing a.1 a.2.1 a.2.2⟩
def a_impl_Bridge_setThing : List (Nat × LoopAnn) := []
theorem e_impl_Bridge_setThing : fnDen ⟨tis, fns_308, [], false⟩ a_impl_Bridge_setThing Tryz.f204 (codeOf Tryz.f204) [.ptr cBridge true, .val false (.one (.sl (.one (.int .i64)))) false, .val true cVal false] [.val false (.one (.int .i64)) true] = fun a => impl_Bridge_setThing a.1 a.2.1 a.2.2 := by kernel_rfl
theorem m_impl_Bridge_setThing : Meets Tryz.prog 204 F_impl_Bridge_setThing := by
  have h := meets_of (ann := a_impl_Bridge_setThing) (ps := [.ptr cBridge true, .val false (.one (.sl (.one (.int .i64)))) false, .val true cVal false]) (rs := [.val false (.one (.int .i64)) true]) g_308 mixed Tryz.func204 (by kernel_rfl) (by kernel_rfl : Tryz.f204.body = some (codeOf Tryz.f204))
  rw [e_impl_Bridge_setThing] at h
  exact h
noncomputable def fns_204 : List (FuncId × Fn) := (204, F_impl_Bridge_setThing) :: fns_308
theorem g_204 : Good Tryz.prog ⟨tis, fns_204, [], false⟩ := g_308.cons m_impl_Bridge_setThing
noncomputable def impl_entAt_l0 (l0 : List Fent) (tag1 : Int) (mac2 : Int) (t11 : Int) : Option (Int ⊕ (Unit ⊕ Int)) :=
  cond (decide (t11 < (l0.length : Int)))
    ((at? l0 t11).bind fun x14 =>
    (cond (x14.1 == tag1) (some (x14.2.1 == mac2)) (some false)).bind fun t25 =>
    cond t25 (some (.inr (.inr t11))) (some (.inl (w64 (t11 + 1)))))
    (some (.inr (.inl ())))
noncomputable def impl_entAt (l0 : List Fent) (tag1 : Int) (mac2 : Int) : Option Int :=
  (loop (fun z => impl_entAt_l0 l0 tag1 mac2 z) 0).bind (Sum.elim (fun d =>
    some (-1)) (fun r => some r))
noncomputable def F_impl_entAt : Fn := ⟨[.val false (.one (.sl cFent)) false, .val false (.one (.int .i64)) false, .val false (.one (.int .i64)) false], [.val false (.one (.int .i64)) true], fun a => impl_entAt a.1 a.2.1 a.2.2⟩
def a_impl_entAt : List (Nat × LoopAnn) := [(0, ⟨⟨[(11, false, [.dat (.int .i64)]), (21, false, [.undef]), (22, false, [.undef]), (23, false, [.undef]), (24, false, [.undef])], []⟩,
    ⟨[], []⟩, some ⟨[(6, false, [.dat (.int .i64)])], []⟩⟩)]
theorem e_impl_entAt : fnDen ⟨tis, fns_204, [], false⟩ a_impl_entAt Tryz.f309 (codeOf Tryz.f309) [.val false (.one (.sl cFent)) false, .val false (.one (.int .i64)) false, .val false (.one (.int .i64)) false] [.val false (.one (.int .i64)) true] = fun a => impl_entAt a.1 a.2.1 a.2.2 := by kernel_rfl
theorem m_impl_entAt : Meets Tryz.prog 309 F_impl_entAt := by
  have h := meets_of (ann := a_impl_entAt) (ps := [.val false (.one (.sl cFent)) false, .val false (.one (.int .i64)) false, .val false (.one (.int .i64)) false]) (rs := [.val false (.one (.int .i64)) true]) g_204 mixed Tryz.func309 (by kernel_rfl) (by kernel_rfl : Tryz.f309.body = some (codeOf Tryz.f309))
  rw [e_impl_entAt] at h
  exact h
noncomputable def fns_309 : List (FuncId × Fn) := (309, F_impl_entAt) :: fns_204
theorem g_309 : Good Tryz.prog ⟨tis, fns_309, [], false⟩ := g_204.cons m_impl_entAt
noncomputable def impl_canRead (b0 : Bridge) (o1 : List Int) : Option Bool :=
  (impl_numbered o1 2 5 ([1] : List Int)).bind fun t11 =>
  (cond t11
    (some true)
    ((impl_numbered o1 1 (b0.2.2.1.length : Int) ([2, 1] : List Int)).bind fun t16 =>
    some t16)).bind fun t17 =>
  (cond t17
    (some true)
    ((impl_numbered o1 1 (b0.2.2.1.length : Int) ([2, 3] : List Int)).bind fun t22 =>
    some t22)).bind fun t23 =>
  cond t23
    (some true)
    ((cond ((o1.length : Int) == 7)
      ((cut o1 0 5).bind fun t29 =>
      (impl_SameOid t29 ([1, 3, 1, 4, 1] : List Int)).bind fun t31 =>
      some t31)
      (some false)).bind fun t32 =>
    (cond t32
      ((at? o1 5).bind fun x37 =>
      (at? o1 6).bind fun x40 =>
      (impl_entAt b0.2.2.2.1 x37 x40).bind fun t42 =>
      some (decide (t42 ≥ 0)))
      (some false)).bind fun t44 =>
    some t44)
noncomputable def F_impl_canRead : Fn := ⟨[.val true cBridge false, .val false (.one (.sl (.one (.int .i64)))) false], [.val false (.one .bool) true], fun a => impl_canRead a.1 a.2⟩
def a_impl_canRead : List (Nat × LoopAnn) := []
theorem e_impl_canRead : fnDen ⟨tis, fns_309, [], false⟩ a_impl_canRead Tryz.f205 (codeOf Tryz.f205) [.val true cBridge false, .val false (.one (.sl (.one (.int .i64)))) false] [.val false (.one .bool) true] = fun a => impl_canRead a.1 a.2 := by kernel_rfl
theorem m_impl_canRead : Meets Tryz.prog 205 F_impl_canRead := by
  have h := meets_of (ann := a_impl_canRead) (ps := [.val true cBridge false, .val false (.one (.sl (.one (.int .i64)))) false]) (rs := [.val false (.one .bool) true]) g_309 mixed Tryz.func205 (by kernel_rfl) (by kernel_rfl : Tryz.f205.body = some (codeOf Tryz.f205))
  rw [e_impl_canRead] at h
  exact h
noncomputable def fns_205 : List (FuncId × Fn) := (205, F_impl_canRead) :: fns_309
theorem g_205 : Good Tryz.prog ⟨tis, fns_205, [], false⟩ := g_309.cons m_impl_canRead
noncomputable def impl_Bridge_set (b0 : Bridge) (x1 : Bind) : Option (Bridge × Int) :=
  (impl_canSet b0 x1.1).bind fun t11 =>
  cond t11
    ((impl_Bridge_setThing b0 x1.1 x1.2).bind fun t17 =>
    some t17)
    ((impl_canRead b0 x1.1).bind fun t24 =>
    cond t24 (some (b0, 4)) (some (b0, 3)))
noncomputable def F_impl_Bridge_set : Fn := ⟨[.ptr cBridge true, .val true cBind false], [.val false (.one (.int .i64)) true], fun a => impl_Bridge_set a.1 a.2⟩
def a_impl_Bridge_set : List (Nat × LoopAnn) := []
theorem e_impl_Bridge_set : fnDen ⟨tis, fns_205, [], false⟩ a_impl_Bridge_set Tryz.f90 (codeOf Tryz.f90) [.ptr cBridge true, .val true cBind false] [.val false (.one (.int .i64)) true] = fun a => impl_Bridge_set a.1 a.2 := by kernel_rfl
theorem m_impl_Bridge_set : Meets Tryz.prog 90 F_impl_Bridge_set := by
  have h := meets_of (ann := a_impl_Bridge_set) (ps := [.ptr cBridge true, .val true cBind false]) (rs := [.val false (.one (.int .i64)) true]) g_205 mixed Tryz.func90 (by kernel_rfl) (by kernel_rfl : Tryz.f90.body = some (codeOf Tryz.f90))
  rw [e_impl_Bridge_set] at h
  exact h
noncomputable def fns_90 : List (FuncId × Fn) := (90, F_impl_Bridge_set) :: fns_205
theorem g_90 : Good Tryz.prog ⟨tis, fns_90, [], false⟩ := g_205.cons m_impl_Bridge_set
noncomputable def impl_more (n0 : Int) : Option Int :=
  let t2 := min2 (w64 (n0 + 1)) 1000000
  some t2
noncomputable def F_impl_more : Fn := ⟨[.val false (.one (.int .i64)) false], [.val false (.one (.int .i64)) true], fun a => impl_more a⟩
def a_impl_more : List (Nat × LoopAnn) := []
theorem e_impl_more : fnDen ⟨tis, fns_90, [], false⟩ a_impl_more Tryz.f110 (codeOf Tryz.f110) [.val false (.one (.int .i64)) false] [.val false (.one (.int .i64)) true] = fun a => impl_more a := by kernel_rfl
theorem m_impl_more : Meets Tryz.prog 110 F_impl_more := by
  have h := meets_of (ann := a_impl_more) (ps := [.val false (.one (.int .i64)) false]) (rs := [.val false (.one (.int .i64)) true]) g_90 mixed Tryz.func110 (by kernel_rfl) (by kernel_rfl : Tryz.f110.body = some (codeOf Tryz.f110))
  rw [e_impl_more] at h
  exact h
noncomputable def fns_110 : List (FuncId × Fn) := (110, F_impl_more) :: fns_90
theorem g_110 : Good Tryz.prog ⟨tis, fns_110, [], false⟩ := g_90.cons m_impl_more
noncomputable def impl_Sends_l0 (id0 : Int) (l1 : List Pt) (bits5 : Int) (port6 : Int) : Option ((Int × Int) ⊕ Int) :=
  (cond (decide (port6 < (l1.length : Int))) (some (decide (port6 < 6))) (some false)).bind fun t15 =>
  cond t15
    ((impl_RoleOf id0 l1 port6).bind fun t21 =>
    (cond (t21 == 1) (some true) (some (t21 == 2))).bind fun t27 =>
    cond t27
      ((shl .i64 1 port6).bind fun t30 =>
      some (.inl (bor .i64 bits5 t30, w64 (port6 + 1))))
      (some (.inl (bits5, w64 (port6 + 1)))))
    (some (.inr bits5))
noncomputable def impl_Sends (id0 : Int) (l1 : List Pt) : Option Int :=
  (loop (fun z => impl_Sends_l0 id0 l1 z.1 z.2) (0, 0)).bind fun d =>
  some d
noncomputable def F_impl_Sends : Fn := ⟨[.val false (.one (.int .i64)) false, .val false (.one (.sl cPt)) false], [.val false (.one (.int .i64)) true], fun a => impl_Sends a.1 a.2⟩
def a_impl_Sends : List (Nat × LoopAnn) := [(0, ⟨⟨[(5, false, [.dat (.int .i64)]), (6, false, [.dat (.int .i64)]), (13, false, [.undef]), (14, false, [.undef]), (25, false, [.undef]), (26, false, [.undef])], []⟩,
    ⟨[(5, false, [.dat (.int .i64)])], []⟩, none⟩)]
theorem e_impl_Sends : fnDen ⟨tis, fns_110, [], false⟩ a_impl_Sends Tryz.f208 (codeOf Tryz.f208) [.val false (.one (.int .i64)) false, .val false (.one (.sl cPt)) false] [.val false (.one (.int .i64)) true] = fun a => impl_Sends a.1 a.2 := by kernel_rfl
theorem m_impl_Sends : Meets Tryz.prog 208 F_impl_Sends := by
  have h := meets_of (ann := a_impl_Sends) (ps := [.val false (.one (.int .i64)) false, .val false (.one (.sl cPt)) false]) (rs := [.val false (.one (.int .i64)) true]) g_110 mixed Tryz.func208 (by kernel_rfl) (by kernel_rfl : Tryz.f208.body = some (codeOf Tryz.f208))
  rw [e_impl_Sends] at h
  exact h
noncomputable def fns_208 : List (FuncId × Fn) := (208, F_impl_Sends) :: fns_110
theorem g_208 : Good Tryz.prog ⟨tis, fns_208, [], false⟩ := g_110.cons m_impl_Sends
noncomputable def impl_hasPort (bits0 : Int) (port1 : Int) : Option Bool :=
  (impl_in port1 0 62).bind fun t6 =>
  (cond t6
    ((shr .i64 bits0 port1).bind fun t10 =>
    some ((band .i64 t10 1) == 1))
    (some false)).bind fun t13 =>
  some t13
noncomputable def F_impl_hasPort : Fn := ⟨[.val false (.one (.int .i64)) false, .val false (.one (.int .i64)) false], [.val false (.one .bool) true], fun a => impl_hasPort a.1 a.2⟩
def a_impl_hasPort : List (Nat × LoopAnn) := []
theorem e_impl_hasPort : fnDen ⟨tis, fns_208, [], false⟩ a_impl_hasPort Tryz.f209 (codeOf Tryz.f209) [.val false (.one (.int .i64)) false, .val false (.one (.int .i64)) false] [.val false (.one .bool) true] = fun a => impl_hasPort a.1 a.2 := by kernel_rfl
theorem m_impl_hasPort : Meets Tryz.prog 209 F_impl_hasPort := by
  have h := meets_of (ann := a_impl_hasPort) (ps := [.val false (.one (.int .i64)) false, .val false (.one (.int .i64)) false]) (rs := [.val false (.one .bool) true]) g_208 mixed Tryz.func209 (by kernel_rfl) (by kernel_rfl : Tryz.f209.body = some (codeOf Tryz.f209))
  rw [e_impl_hasPort] at h
  exact h
noncomputable def fns_209 : List (FuncId × Fn) := (209, F_impl_hasPort) :: fns_208
theorem g_209 : Good Tryz.prog ⟨tis, fns_209, [], false⟩ := g_208.cons m_impl_hasPort
noncomputable def impl_FlushPort_l0 (l0 : List Fent) (port1 : Int) (t10 : Int) (out5 : List Fent) : Option ((Int × List Fent) ⊕ (List Fent)) :=
  cond (decide (t10 < (l0.length : Int)))
    ((at? l0 t10).bind fun x12 =>
    (cond x12.2.2.2.2 (some true) (some (x12.2.2.1 != port1))).bind fun t21 =>
    cond t21
      ((app out5 [x12]).bind fun zs25 =>
      some (.inl (w64 (t10 + 1), zs25)))
      (some (.inl (w64 (t10 + 1), out5))))
    (some (.inr out5))
noncomputable def impl_FlushPort (l0 : List Fent) (port1 : Int) : Option (List Fent) :=
  (loop (fun z => impl_FlushPort_l0 l0 port1 z.1 z.2) (0, [])).bind fun d =>
  some d
noncomputable def F_impl_FlushPort : Fn := ⟨[.val false (.one (.sl cFent)) false, .val false (.one (.int .i64)) false], [.val false (.one (.sl cFent)) true], fun a => impl_FlushPort a.1 a.2⟩
def a_impl_FlushPort : List (Nat × LoopAnn) := [(0, ⟨⟨[(5, false, [.own 1000000000]), (10, false, [.dat (.int .i64)]), (17, false, [.undef]), (18, false, [.undef]), (19, false, [.undef]), (20, false, [.undef])], [(1000000000, .root cFent true)]⟩,
    ⟨[(5, false, [.own 1000000300])], [(1000000300, .root cFent true)]⟩, none⟩)]
theorem e_impl_FlushPort : fnDen ⟨tis, fns_209, [], false⟩ a_impl_FlushPort Tryz.f210 (codeOf Tryz.f210) [.val false (.one (.sl cFent)) false, .val false (.one (.int .i64)) false] [.val false (.one (.sl cFent)) true] = fun a => impl_FlushPort a.1 a.2 := by kernel_rfl
theorem m_impl_FlushPort : Meets Tryz.prog 210 F_impl_FlushPort := by
  have h := meets_of (ann := a_impl_FlushPort) (ps := [.val false (.one (.sl cFent)) false, .val false (.one (.int .i64)) false]) (rs := [.val false (.one (.sl cFent)) true]) g_209 mixed Tryz.func210 (by kernel_rfl) (by kernel_rfl : Tryz.f210.body = some (codeOf Tryz.f210))
  rw [e_impl_FlushPort] at h
  exact h
noncomputable def fns_210 : List (FuncId × Fn) := (210, F_impl_FlushPort) :: fns_209
theorem g_210 : Good Tryz.prog ⟨tis, fns_210, [], false⟩ := g_209.cons m_impl_FlushPort
noncomputable def impl_Bridge_turn_l0 (b0 : Bridge) (t20 : Int) (t26 : Int) (b0_1 : Int) (b1 : List UInt8) (b6 : Int) (b7 : Int) (b8 : Int) (b9 : Int) (b10 : Int) (b3 : List Fent) : Option ((Int × Int × List UInt8 × Int × Int × Int × Int × Int × List Fent) ⊕ (Int × List UInt8 × Int × Int × Int × Int × Int × List Fent)) :=
  cond (decide (t26 < (b0.2.2.1.length : Int)))
    ((impl_hasPort t20 t26).bind fun t31 =>
    cond (!t31)
      ((impl_FlushPort b3 t26).bind fun t39 =>
      some (.inl (w64 (t26 + 1), b0_1, b1, b6, b7, b8, b9, b10, t39)))
      (some (.inl (w64 (t26 + 1), b0_1, b1, b6, b7, b8, b9, b10, b3))))
    (some (.inr (b0_1, b1, b6, b7, b8, b9, b10, b3)))
noncomputable def impl_Bridge_turn (b0 : Bridge) : Option Bridge :=
  (impl_more b0.2.2.2.2.2.2.2.2.2.2).bind fun t9 =>
  (impl_Sends b0.1 b0.2.2.1).bind fun t20 =>
  (loop (fun z => impl_Bridge_turn_l0 b0 t20 z.1 z.2.1 z.2.2.1 z.2.2.2.1 z.2.2.2.2.1 z.2.2.2.2.2.1 z.2.2.2.2.2.2.1 z.2.2.2.2.2.2.2.1 z.2.2.2.2.2.2.2.2) (0, b0.1, b0.2.1, b0.2.2.2.2.2.2.1, b0.2.2.2.2.2.2.2.1, b0.2.2.2.2.2.2.2.2.1, b0.2.2.2.2.2.2.2.2.2.1, t9, b0.2.2.2.1)).bind fun d =>
  some (d.1, d.2.1, b0.2.2.1, d.2.2.2.2.2.2.2, b0.2.2.2.2.1, b0.2.2.2.2.2.1, d.2.2.1, d.2.2.2.1, d.2.2.2.2.1, d.2.2.2.2.2.1, d.2.2.2.2.2.2.1)
noncomputable def F_impl_Bridge_turn : Fn := ⟨[.ptr cBridge true], [], fun a => impl_Bridge_turn a⟩
def a_impl_Bridge_turn : List (Nat × LoopAnn) := [(0, ⟨⟨[(26, false, [.dat (.int .i64)])], [(1, .box [.dat (.int .i64), .dat .str, .same 4, .own 1000000000, .same 6, .same 7, .dat (.int .i64), .dat (.int .i64), .dat (.int .i64), .dat (.int .i64), .dat (.int .i64)]), (1000000000, .root cFent true)]⟩,
    ⟨[], [(1, .box [.dat (.int .i64), .dat .str, .same 4, .own 1000000300, .same 6, .same 7, .dat (.int .i64), .dat (.int .i64), .dat (.int .i64), .dat (.int .i64), .dat (.int .i64)]), (1000000300, .root cFent true)]⟩, none⟩)]
theorem e_impl_Bridge_turn : fnDen ⟨tis, fns_210, [], false⟩ a_impl_Bridge_turn Tryz.f92 (codeOf Tryz.f92) [.ptr cBridge true] [] = fun a => impl_Bridge_turn a := by kernel_rfl
theorem m_impl_Bridge_turn : Meets Tryz.prog 92 F_impl_Bridge_turn := by
  have h := meets_of (ann := a_impl_Bridge_turn) (ps := [.ptr cBridge true]) (rs := []) g_210 mixed Tryz.func92 (by kernel_rfl) (by kernel_rfl : Tryz.f92.body = some (codeOf Tryz.f92))
  rw [e_impl_Bridge_turn] at h
  exact h
noncomputable def fns_92 : List (FuncId × Fn) := (92, F_impl_Bridge_turn) :: fns_210
theorem g_92 : Good Tryz.prog ⟨tis, fns_92, [], false⟩ := g_210.cons m_impl_Bridge_turn
noncomputable def impl_SetAll_l2 (p0 : Bridge) (t25 : Int) (x28 : Bind) (t32 : List Bind) (t34 : Int) (b0_2 : Int) (b1_2 : List UInt8) (b6_2 : Int) (b7_2 : Int) (b8_2 : Int) (b9_2 : Int) (b10_2 : Int) : Option ((Int × Int × List UInt8 × Int × Int × Int × Int × Int) ⊕ ((Int × List UInt8 × Int × Int × Int × Int × Int) ⊕ (Int × Int × Int × List UInt8 × Int × Int × Int × Int × Int × List Pt × List Fent × List Vrow × List Int))) :=
  cond (decide (t34 < (t32.length : Int)))
    ((at? t32 t34).bind fun x36 =>
    (impl_SameOid x28.1 x36.1).bind fun t42 =>
    cond t42
      ((impl_copyBridge p0).bind fun t44 =>
      some (.inr (.inr (5, w64 (t25 + 1), t44.1, t44.2.1, t44.2.2.2.2.2.2.1, t44.2.2.2.2.2.2.2.1, t44.2.2.2.2.2.2.2.2.1, t44.2.2.2.2.2.2.2.2.2.1, t44.2.2.2.2.2.2.2.2.2.2, t44.2.2.1, t44.2.2.2.1, t44.2.2.2.2.1, t44.2.2.2.2.2.1))))
      (some (.inl (w64 (t34 + 1), b0_2, b1_2, b6_2, b7_2, b8_2, b9_2, b10_2))))
    (some (.inr (.inl (b0_2, b1_2, b6_2, b7_2, b8_2, b9_2, b10_2))))
noncomputable def impl_SetAll_l0 (p0 : Bridge) (i1 : List Bind) (t25 : Int) (b0 : Int) (b1 : List UInt8) (b6 : Int) (b7 : Int) (b8 : Int) (b9 : Int) (b10 : Int) (b0_1 : Int) (b1_1 : List UInt8) (b6_1 : Int) (b7_1 : Int) (b8_1 : Int) (b9_1 : Int) (b10_1 : Int) (b2 : List Pt) (b3 : List Fent) (b4 : List Vrow) (b5 : List Int) (b2_1 : List Pt) (b3_1 : List Fent) (b4_1 : List Vrow) (b5_1 : List Int) : Option ((Int × Int × List UInt8 × Int × Int × Int × Int × Int × Int × List UInt8 × Int × Int × Int × Int × Int × List Pt × List Fent × List Vrow × List Int × List Pt × List Fent × List Vrow × List Int) ⊕ ((Int × List UInt8 × Int × Int × Int × Int × Int × Int × List UInt8 × Int × Int × Int × Int × Int × List Pt × List Fent × List Vrow × List Int × List Pt × List Fent × List Vrow × List Int) ⊕ (Int × Int × Int × List UInt8 × Int × Int × Int × Int × Int × List Pt × List Fent × List Vrow × List Int))) :=
  cond (decide (t25 < (i1.length : Int)))
    ((at? i1 t25).bind fun x28 =>
    (cut i1 0 t25).bind fun t32 =>
    (loop (fun z => impl_SetAll_l2 p0 t25 x28 t32 z.1 z.2.1 z.2.2.1 z.2.2.2.1 z.2.2.2.2.1 z.2.2.2.2.2.1 z.2.2.2.2.2.2.1 z.2.2.2.2.2.2.2) (0, b0, b1, b6, b7, b8, b9, b10)).bind (Sum.elim (fun d =>
      (impl_Bridge_set (b0_1, b1_1, b2_1, b3_1, b4_1, b5_1, b6_1, b7_1, b8_1, b9_1, b10_1) x28).bind fun t49 =>
      cond (t49.2 != 0)
        ((impl_copyBridge p0).bind fun t53 =>
        some (.inr (.inr (t49.2, w64 (t25 + 1), t53.1, t53.2.1, t53.2.2.2.2.2.2.1, t53.2.2.2.2.2.2.2.1, t53.2.2.2.2.2.2.2.2.1, t53.2.2.2.2.2.2.2.2.2.1, t53.2.2.2.2.2.2.2.2.2.2, t53.2.2.1, t53.2.2.2.1, t53.2.2.2.2.1, t53.2.2.2.2.2.1))))
        (some (.inl (w64 (t25 + 1), d.1, d.2.1, d.2.2.1, d.2.2.2.1, d.2.2.2.2.1, d.2.2.2.2.2.1, d.2.2.2.2.2.2, t49.1.1, t49.1.2.1, t49.1.2.2.2.2.2.2.1, t49.1.2.2.2.2.2.2.2.1, t49.1.2.2.2.2.2.2.2.2.1, t49.1.2.2.2.2.2.2.2.2.2.1, t49.1.2.2.2.2.2.2.2.2.2.2, b2, b3, b4, b5, t49.1.2.2.1, t49.1.2.2.2.1, t49.1.2.2.2.2.1, t49.1.2.2.2.2.2.1)))) (fun r => some (.inr (.inr r)))))
    (some (.inr (.inl (b0, b1, b6, b7, b8, b9, b10, b0_1, b1_1, b6_1, b7_1, b8_1, b9_1, b10_1, b2, b3, b4, b5, b2_1, b3_1, b4_1, b5_1))))
noncomputable def impl_SetAll (p0 : Bridge) (i1 : List Bind) : Option (Bridge × Int × Int) :=
  (impl_copyBridge p0).bind fun t14 =>
  cond ((i1.length : Int) == 0)
    (some (t14, 0, 0))
    ((impl_BridgeOk p0).bind fun t20 =>
    cond (!t20)
      (some (t14, 3, 1))
      ((loop (fun z => impl_SetAll_l0 p0 i1 z.1 z.2.1 z.2.2.1 z.2.2.2.1 z.2.2.2.2.1 z.2.2.2.2.2.1 z.2.2.2.2.2.2.1 z.2.2.2.2.2.2.2.1 z.2.2.2.2.2.2.2.2.1 z.2.2.2.2.2.2.2.2.2.1 z.2.2.2.2.2.2.2.2.2.2.1 z.2.2.2.2.2.2.2.2.2.2.2.1 z.2.2.2.2.2.2.2.2.2.2.2.2.1 z.2.2.2.2.2.2.2.2.2.2.2.2.2.1 z.2.2.2.2.2.2.2.2.2.2.2.2.2.2.1 z.2.2.2.2.2.2.2.2.2.2.2.2.2.2.2.1 z.2.2.2.2.2.2.2.2.2.2.2.2.2.2.2.2.1 z.2.2.2.2.2.2.2.2.2.2.2.2.2.2.2.2.2.1 z.2.2.2.2.2.2.2.2.2.2.2.2.2.2.2.2.2.2.1 z.2.2.2.2.2.2.2.2.2.2.2.2.2.2.2.2.2.2.2.1 z.2.2.2.2.2.2.2.2.2.2.2.2.2.2.2.2.2.2.2.2.1 z.2.2.2.2.2.2.2.2.2.2.2.2.2.2.2.2.2.2.2.2.2.1 z.2.2.2.2.2.2.2.2.2.2.2.2.2.2.2.2.2.2.2.2.2.2) (0, 0, [], 0, 0, 0, 0, 0, t14.1, t14.2.1, t14.2.2.2.2.2.2.1, t14.2.2.2.2.2.2.2.1, t14.2.2.2.2.2.2.2.2.1, t14.2.2.2.2.2.2.2.2.2.1, t14.2.2.2.2.2.2.2.2.2.2, [], [], [], [], t14.2.2.1, t14.2.2.2.1, t14.2.2.2.2.1, t14.2.2.2.2.2.1)).bind (Sum.elim (fun d_1 =>
        (impl_VtabOk d_1.2.2.2.2.2.2.2.2.2.2.2.2.2.2.2.2.2.2.2.2 (d_1.2.2.2.2.2.2.2.2.2.2.2.2.2.2.2.2.2.2.1.length : Int)).bind fun t63 =>
        cond (!t63)
          ((impl_copyBridge p0).bind fun t66 =>
          some (t66, 5, (i1.length : Int)))
          ((impl_Bridge_turn (d_1.2.2.2.2.2.2.2.1, d_1.2.2.2.2.2.2.2.2.1, d_1.2.2.2.2.2.2.2.2.2.2.2.2.2.2.2.2.2.2.1, d_1.2.2.2.2.2.2.2.2.2.2.2.2.2.2.2.2.2.2.2.1, d_1.2.2.2.2.2.2.2.2.2.2.2.2.2.2.2.2.2.2.2.2.1, d_1.2.2.2.2.2.2.2.2.2.2.2.2.2.2.2.2.2.2.2.2.2, d_1.2.2.2.2.2.2.2.2.2.1, d_1.2.2.2.2.2.2.2.2.2.2.1, d_1.2.2.2.2.2.2.2.2.2.2.2.1, d_1.2.2.2.2.2.2.2.2.2.2.2.2.1, d_1.2.2.2.2.2.2.2.2.2.2.2.2.2.1)).bind fun t69 =>
          some (t69, 0, 0))) (fun r_1 => some ((r_1.2.2.1, r_1.2.2.2.1, r_1.2.2.2.2.2.2.2.2.2.1, r_1.2.2.2.2.2.2.2.2.2.2.1, r_1.2.2.2.2.2.2.2.2.2.2.2.1, r_1.2.2.2.2.2.2.2.2.2.2.2.2, r_1.2.2.2.2.1, r_1.2.2.2.2.2.1, r_1.2.2.2.2.2.2.1, r_1.2.2.2.2.2.2.2.1, r_1.2.2.2.2.2.2.2.2.1), r_1.1, r_1.2.1)))))
noncomputable def F_impl_SetAll : Fn := ⟨[.val true cBridge false, .val false (.one (.sl cBind)) false], [.val true cBridge true, .val false (.one (.int .i64)) true, .val false (.one (.int .i64)) true], fun a => impl_SetAll a.1 a.2⟩
def a_impl_SetAll : List (Nat × LoopAnn) := [(0, ⟨⟨[(25, false, [.dat (.int .i64)])], [(2048, .box [.dat (.int .i64), .dat .str, .own 1000000000, .own 1000000001, .own 1000000002, .own 1000000003, .dat (.int .i64), .dat (.int .i64), .dat (.int .i64), .dat (.int .i64), .dat (.int .i64)]), (265216, .box [.dat (.int .i64), .dat .str, .own 1000000004, .own 1000000005, .own 1000000006, .own 1000000007, .dat (.int .i64), .dat (.int .i64), .dat (.int .i64), .dat (.int .i64), .dat (.int .i64)]), (1000000000, .root cPt true), (1000000001, .root cFent true), (1000000002, .root cVrow true), (1000000003, .root (.one (.int .i64)) true), (1000000004, .root cPt true), (1000000005, .root cFent true), (1000000006, .root cVrow true), (1000000007, .root (.one (.int .i64)) true)]⟩,
    ⟨[], [(2048, .box [.dat (.int .i64), .dat .str, .own 1000000300, .own 1000000301, .own 1000000302, .own 1000000303, .dat (.int .i64), .dat (.int .i64), .dat (.int .i64), .dat (.int .i64), .dat (.int .i64)]), (265216, .box [.dat (.int .i64), .dat .str, .own 1000000304, .own 1000000305, .own 1000000306, .own 1000000307, .dat (.int .i64), .dat (.int .i64), .dat (.int .i64), .dat (.int .i64), .dat (.int .i64)]), (1000000300, .root cPt true), (1000000301, .root cFent true), (1000000302, .root cVrow true), (1000000303, .root (.one (.int .i64)) true), (1000000304, .root cPt true), (1000000305, .root cFent true), (1000000306, .root cVrow true), (1000000307, .root (.one (.int .i64)) true)]⟩, some ⟨[(5, false, [.dat (.int .i64)]), (6, false, [.dat (.int .i64)])], [(2048, .box [.dat (.int .i64), .dat .str, .own 1000000600, .own 1000000601, .own 1000000602, .own 1000000603, .dat (.int .i64), .dat (.int .i64), .dat (.int .i64), .dat (.int .i64), .dat (.int .i64)]), (1000000600, .root cPt true), (1000000601, .root cFent true), (1000000602, .root cVrow true), (1000000603, .root (.one (.int .i64)) true)]⟩⟩),
  (2, ⟨⟨[(34, false, [.dat (.int .i64)])], [(2048, .box [.dat (.int .i64), .dat .str, .same 1000000000, .same 1000000001, .same 1000000002, .same 1000000003, .dat (.int .i64), .dat (.int .i64), .dat (.int .i64), .dat (.int .i64), .dat (.int .i64)])]⟩,
    ⟨[], [(2048, .box [.dat (.int .i64), .dat .str, .same 1000000000, .same 1000000001, .same 1000000002, .same 1000000003, .dat (.int .i64), .dat (.int .i64), .dat (.int .i64), .dat (.int .i64), .dat (.int .i64)])]⟩, some ⟨[(5, false, [.dat (.int .i64)]), (6, false, [.dat (.int .i64)])], [(2048, .box [.dat (.int .i64), .dat .str, .own 1000002600, .own 1000002601, .own 1000002602, .own 1000002603, .dat (.int .i64), .dat (.int .i64), .dat (.int .i64), .dat (.int .i64), .dat (.int .i64)]), (1000002600, .root cPt true), (1000002601, .root cFent true), (1000002602, .root cVrow true), (1000002603, .root (.one (.int .i64)) true)]⟩⟩)]
theorem e_impl_SetAll : fnDen ⟨tis, fns_92, [], false⟩ a_impl_SetAll Tryz.f24 (codeOf Tryz.f24) [.val true cBridge false, .val false (.one (.sl cBind)) false] [.val true cBridge true, .val false (.one (.int .i64)) true, .val false (.one (.int .i64)) true] = fun a => impl_SetAll a.1 a.2 := by kernel_rfl
theorem m_impl_SetAll : Meets Tryz.prog 24 F_impl_SetAll := by
  have h := meets_of (ann := a_impl_SetAll) (ps := [.val true cBridge false, .val false (.one (.sl cBind)) false]) (rs := [.val true cBridge true, .val false (.one (.int .i64)) true, .val false (.one (.int .i64)) true]) g_92 mixed Tryz.func24 (by kernel_rfl) (by kernel_rfl : Tryz.f24.body = some (codeOf Tryz.f24))
  rw [e_impl_SetAll] at h
  exact h
noncomputable def fns_24 : List (FuncId × Fn) := (24, F_impl_SetAll) :: fns_92
theorem g_24 : Good Tryz.prog ⟨tis, fns_24, [], false⟩ := g_92.cons m_impl_SetAll
noncomputable def impl_MibGet_l0 (o1 : List Int) (t8 : List Bind) (t10 : Int) (b0_1 : Int) (b1 : Int) (b2 : List UInt8) (b3 : List Int) : Option ((Int × Int × Int × List UInt8 × List Int) ⊕ ((Int × Int × List UInt8 × List Int) ⊕ (Int × Int × List UInt8 × List Int))) :=
  cond (decide (t10 < (t8.length : Int)))
    ((at? t8 t10).bind fun x12 =>
    (impl_SameOid x12.1 o1).bind fun t17 =>
    cond t17
      (some (.inr (.inr x12.2)))
      (some (.inl (w64 (t10 + 1), b0_1, b1, b2, b3))))
    (some (.inr (.inl (b0_1, b1, b2, b3))))
noncomputable def impl_MibGet (b0 : Bridge) (o1 : List Int) : Option Val :=
  (impl_MibList b0).bind fun t8 =>
  (loop (fun z => impl_MibGet_l0 o1 t8 z.1 z.2.1 z.2.2.1 z.2.2.2.1 z.2.2.2.2) (0, 0, 0, [], [])).bind (Sum.elim (fun d =>
    some (128, 0, [], [])) (fun r => some r))
noncomputable def F_impl_MibGet : Fn := ⟨[.val true cBridge false, .val false (.one (.sl (.one (.int .i64)))) false], [.val true cVal false], fun a => impl_MibGet a.1 a.2⟩
def a_impl_MibGet : List (Nat × LoopAnn) := [(0, ⟨⟨[(10, false, [.dat (.int .i64)])], [(2048, .box [.dat (.int .i64), .dat (.int .i64), .dat .str, .own 1000000000]), (1000000000, .root (.one (.int .i64)) true)]⟩,
    ⟨[], [(2048, .box [.dat (.int .i64), .dat (.int .i64), .dat .str, .own 1000000300]), (1000000300, .root (.one (.int .i64)) true)]⟩, some ⟨[], [(2048, .box [.dat (.int .i64), .dat (.int .i64), .dat .str, .dat (.sl (.one (.int .i64)))])]⟩⟩)]
theorem e_impl_MibGet : fnDen ⟨tis, fns_24, [], false⟩ a_impl_MibGet Tryz.f28 (codeOf Tryz.f28) [.val true cBridge false, .val false (.one (.sl (.one (.int .i64)))) false] [.val true cVal false] = fun a => impl_MibGet a.1 a.2 := by kernel_rfl
theorem m_impl_MibGet : Meets Tryz.prog 28 F_impl_MibGet := by
  have h := meets_of (ann := a_impl_MibGet) (ps := [.val true cBridge false, .val false (.one (.sl (.one (.int .i64)))) false]) (rs := [.val true cVal false]) g_24 mixed Tryz.func28 (by kernel_rfl) (by kernel_rfl : Tryz.f28.body = some (codeOf Tryz.f28))
  rw [e_impl_MibGet] at h
  exact h
noncomputable def fns_28 : List (FuncId × Fn) := (28, F_impl_MibGet) :: fns_24
theorem g_28 : Good Tryz.prog ⟨tis, fns_28, [], false⟩ := g_24.cons m_impl_MibGet
noncomputable def impl_bulk_l0 (p0 : Bridge) (t24 : List Bind) (t26 : Int) (t5 : List Bind) : Option ((Int × List Bind) ⊕ (List Bind)) :=
  cond (decide (t26 < (t24.length : Int)))
    ((at? t24 t26).bind fun x28 =>
    (impl_MibNext p0 x28.1).bind fun t34 =>
    (app t5 [t34]).bind fun zs36 =>
    some (.inl (w64 (t26 + 1), zs36)))
    (some (.inr t5))
noncomputable def impl_bulk_l2 (t41 : List Bind) (t43 : Int) (t9 : List (List Int)) : Option ((Int × List (List Int)) ⊕ (List (List Int))) :=
  cond (decide (t43 < (t41.length : Int)))
    ((at? t41 t43).bind fun x45 =>
    (app t9 [x45.1]).bind fun zs51 =>
    some (.inl (w64 (t43 + 1), zs51)))
    (some (.inr t9))
noncomputable def impl_bulk_l6 (p0 : Bridge) (l : List (List Int)) (t71 : Int) (t5_3 : List Bind) (l_1 : List (List Int)) : Option ((Int × List Bind × List (List Int)) ⊕ (List Bind × List (List Int))) :=
  cond (decide (t71 < (l.length : Int)))
    (cond (decide ((t5_3.length : Int) ≥ 10))
      (some (.inr (t5_3, l_1)))
      ((ix l_1.length t71).bind fun j80 =>
      (l_1[j80]?).bind fun x81 =>
      (impl_MibNext p0 x81).bind fun t82 =>
      (ix l_1.length t71).bind fun j87 =>
      (l_1[j87]?).bind fun x =>
      (app t5_3 [t82]).bind fun zs91 =>
      some (.inl (w64 (t71 + 1), zs91, l_1.set j87 t82.1))))
    (some (.inr (t5_3, l_1)))
noncomputable def impl_bulk_l4 (p0 : Bridge) (i1 : Pdu) (t12 : Int) (t5_2 : List Bind) (l : List (List Int)) : Option ((Int × List Bind × List (List Int)) ⊕ (List Bind × List (List Int))) :=
  (cond (decide (t12 < i1.2.2.2.1)) (some (decide ((l.length : Int) > 0))) (some false)).bind fun t61 =>
  (cond t61 (some (decide ((t5_2.length : Int) < 10))) (some false)).bind fun t66 =>
  cond t66
    ((loop (fun z => impl_bulk_l6 p0 l z.1 z.2.1 z.2.2) (0, t5_2, l)).bind fun d_2 =>
    some (.inl (w64 (t12 + 1), d_2.1, d_2.2)))
    (some (.inr (t5_2, l)))
noncomputable def impl_bulk (p0 : Bridge) (i1 : Pdu) : Option (List Bind) :=
  let t6 := min2 i1.2.2.1 (i1.2.2.2.2.length : Int)
  (cut i1.2.2.2.2 0 t6).bind fun t24 =>
  (loop (fun z => impl_bulk_l0 p0 t24 z.1 z.2) (0, [])).bind fun d =>
  (cut i1.2.2.2.2 t6 (i1.2.2.2.2.length : Int)).bind fun t41 =>
  (loop (fun z => impl_bulk_l2 t41 z.1 z.2) (0, [])).bind fun d_1 =>
  (loop (fun z => impl_bulk_l4 p0 i1 z.1 z.2.1 z.2.2) (0, d, d_1)).bind fun d_3 =>
  some d_3.1
noncomputable def F_impl_bulk : Fn := ⟨[.val true cBridge false, .val true cPdu false], [.val false (.one (.sl cBind)) false], fun a => impl_bulk a.1 a.2⟩
def a_impl_bulk : List (Nat × LoopAnn) := [(0, ⟨⟨[(5, false, [.own 1000000000]), (26, false, [.dat (.int .i64)])], [(1000000000, .root cBind false)]⟩,
    ⟨[(5, false, [.own 1000000300])], [(1000000300, .root cBind false)]⟩, none⟩),
  (2, ⟨⟨[(9, false, [.own 1000002000]), (43, false, [.dat (.int .i64)])], [(1000002000, .root (.one (.sl (.one (.int .i64)))) false)]⟩,
    ⟨[(9, false, [.own 1000002300])], [(1000002300, .root (.one (.sl (.one (.int .i64)))) false)]⟩, none⟩),
  (4, ⟨⟨[(5, false, [.own 1000004000]), (12, false, [.dat (.int .i64)]), (58, false, [.undef]), (59, false, [.undef]), (60, false, [.undef]), (63, false, [.undef]), (64, false, [.undef]), (65, false, [.undef])], [(1000004000, .root cBind false), (1000002300, .keep (.one (.sl (.one (.int .i64)))) false)]⟩,
    ⟨[(5, false, [.own 1000004300])], [(1000004300, .root cBind false), (1000002300, .keep (.one (.sl (.one (.int .i64)))) false)]⟩, none⟩),
  (6, ⟨⟨[(5, false, [.own 1000006000]), (71, false, [.dat (.int .i64)])], [(1000006000, .root cBind false), (1000002300, .keep (.one (.sl (.one (.int .i64)))) false)]⟩,
    ⟨[(5, false, [.own 1000006300])], [(1000006300, .root cBind false), (1000002300, .keep (.one (.sl (.one (.int .i64)))) false)]⟩, none⟩)]
theorem e_impl_bulk : fnDen ⟨tis, fns_28, [], false⟩ a_impl_bulk Tryz.f83 (codeOf Tryz.f83) [.val true cBridge false, .val true cPdu false] [.val false (.one (.sl cBind)) false] = fun a => impl_bulk a.1 a.2 := by kernel_rfl
theorem m_impl_bulk : Meets Tryz.prog 83 F_impl_bulk := by
  have h := meets_of (ann := a_impl_bulk) (ps := [.val true cBridge false, .val true cPdu false]) (rs := [.val false (.one (.sl cBind)) false]) g_28 mixed Tryz.func83 (by kernel_rfl) (by kernel_rfl : Tryz.f83.body = some (codeOf Tryz.f83))
  rw [e_impl_bulk] at h
  exact h
noncomputable def fns_83 : List (FuncId × Fn) := (83, F_impl_bulk) :: fns_28
theorem g_83 : Good Tryz.prog ⟨tis, fns_83, [], false⟩ := g_28.cons m_impl_bulk
noncomputable def impl_copyVal (v0 : Val) : Option Val :=
  (impl_copyInts v0.2.2.2).bind fun t5 =>
  some (v0.1, v0.2.1, v0.2.2.1, t5)
noncomputable def F_impl_copyVal : Fn := ⟨[.val true cVal false], [.val true cVal true], fun a => impl_copyVal a⟩
def a_impl_copyVal : List (Nat × LoopAnn) := []
theorem e_impl_copyVal : fnDen ⟨tis, fns_83, [], false⟩ a_impl_copyVal Tryz.f197 (codeOf Tryz.f197) [.val true cVal false] [.val true cVal true] = fun a => impl_copyVal a := by kernel_rfl
theorem m_impl_copyVal : Meets Tryz.prog 197 F_impl_copyVal := by
  have h := meets_of (ann := a_impl_copyVal) (ps := [.val true cVal false]) (rs := [.val true cVal true]) g_83 mixed Tryz.func197 (by kernel_rfl) (by kernel_rfl : Tryz.f197.body = some (codeOf Tryz.f197))
  rw [e_impl_copyVal] at h
  exact h
noncomputable def fns_197 : List (FuncId × Fn) := (197, F_impl_copyVal) :: fns_83
theorem g_197 : Good Tryz.prog ⟨tis, fns_197, [], false⟩ := g_83.cons m_impl_copyVal
noncomputable def impl_copyBinds_l0 (l0 : List Bind) (t8 : Int) (out3 : List Bind) : Option ((Int × List Bind) ⊕ (List Bind)) :=
  cond (decide (t8 < (l0.length : Int)))
    ((at? l0 t8).bind fun x10 =>
    (impl_copyInts x10.1).bind fun t15 =>
    (impl_copyVal x10.2).bind fun t18 =>
    (app out3 [(t15, t18.1, t18.2.1, t18.2.2.1, t18.2.2.2)]).bind fun zs21 =>
    some (.inl (w64 (t8 + 1), zs21)))
    (some (.inr out3))
noncomputable def impl_copyBinds (l0 : List Bind) : Option (List Bind) :=
  (loop (fun z => impl_copyBinds_l0 l0 z.1 z.2) (0, [])).bind fun d =>
  some d
noncomputable def F_impl_copyBinds : Fn := ⟨[.val false (.one (.sl cBind)) false], [.val false (.one (.sl cBind)) true], fun a => impl_copyBinds a⟩
def a_impl_copyBinds : List (Nat × LoopAnn) := [(0, ⟨⟨[(3, false, [.own 1000000000]), (8, false, [.dat (.int .i64)])], [(1000000000, .root cBind true)]⟩,
    ⟨[(3, false, [.own 1000000300])], [(1000000300, .root cBind true)]⟩, none⟩)]
theorem e_impl_copyBinds : fnDen ⟨tis, fns_197, [], false⟩ a_impl_copyBinds Tryz.f84 (codeOf Tryz.f84) [.val false (.one (.sl cBind)) false] [.val false (.one (.sl cBind)) true] = fun a => impl_copyBinds a := by kernel_rfl
theorem m_impl_copyBinds : Meets Tryz.prog 84 F_impl_copyBinds := by
  have h := meets_of (ann := a_impl_copyBinds) (ps := [.val false (.one (.sl cBind)) false]) (rs := [.val false (.one (.sl cBind)) true]) g_197 mixed Tryz.func84 (by kernel_rfl) (by kernel_rfl : Tryz.f84.body = some (codeOf Tryz.f84))
  rw [e_impl_copyBinds] at h
  exact h
noncomputable def fns_84 : List (FuncId × Fn) := (84, F_impl_copyBinds) :: fns_197
theorem g_84 : Good Tryz.prog ⟨tis, fns_84, [], false⟩ := g_197.cons m_impl_copyBinds
noncomputable def impl_ReplyOf_l1 (p0 : Bridge) (i1 : Pdu) (t54 : Int) (b0 : Int) (b1 : Int) (b2 : Int) (b3 : Int) (b4 : List Bind) : Option ((Int × Int × Int × Int × Int × List Bind) ⊕ (Int × Int × Int × Int × List Bind)) :=
  cond (decide (t54 < (i1.2.2.2.2.length : Int)))
    ((at? i1.2.2.2.2 t54).bind fun x56 =>
    (impl_copyInts x56.1).bind fun t62 =>
    (impl_MibGet p0 x56.1).bind fun t66 =>
    (app b4 [(t62, t66.1, t66.2.1, t66.2.2.1, t66.2.2.2)]).bind fun zs69 =>
    some (.inl (w64 (t54 + 1), b0, b1, b2, b3, zs69)))
    (some (.inr (b0, b1, b2, b3, b4)))
noncomputable def impl_ReplyOf_l5 (i1 : Pdu) (b0_2 : Int) (b1_2 : List UInt8) (b6 : Int) (b7 : Int) (b8 : Int) (b9 : Int) (b10 : Int) (b0_3 : Int) (b1_3 : Int) (b2_2 : Int) (b3_2 : Int) (b0_4 : Int) (b1_4 : List UInt8) (b6_1 : Int) (b7_1 : Int) (b8_1 : Int) (b9_1 : Int) (b10_1 : Int) (b0_5 : Int) (b1_5 : Int) (b2_3 : Int) (b3_3 : Int) (b4_2 : List Bind) (b2_4 : List Pt) (b3_4 : List Fent) (b4_3 : List Vrow) (b5 : List Int) (b4_4 : List Bind) (b2_5 : List Pt) (b3_5 : List Fent) (b4_5 : List Vrow) (b5_1 : List Int) : Option ((Int × List UInt8 × Int × Int × Int × Int × Int × Int × Int × Int × Int × Int × List UInt8 × Int × Int × Int × Int × Int × Int × Int × Int × Int × List Bind × List Pt × List Fent × List Vrow × List Int × List Bind × List Pt × List Fent × List Vrow × List Int) ⊕ ((Int × List UInt8 × Int × Int × Int × Int × Int × Int × Int × Int × Int × Int × List UInt8 × Int × Int × Int × Int × Int × Int × Int × Int × Int × List Bind × List Pt × List Fent × List Vrow × List Int × List Bind × List Pt × List Fent × List Vrow × List Int) ⊕ (Bool × Int × List UInt8 × Int × Int × Int × Int × Int × Int × Int × Int × Int × List Bind × List Pt × List Fent × List Vrow × List Int))) :=
  (cond (i1.1 == 165) (some (decide ((b4_2.length : Int) > 0))) (some false)).bind fun t109 =>
  cond t109
    ((cut b4_2 0 (w64 ((b4_2.length : Int) - 1))).bind fun t116 =>
    (impl_Fits (b0_5, b1_5, b2_3, b3_3, t116)).bind fun t119 =>
    cond t119
      (some (.inr (.inr (true, b0_4, b1_4, b6_1, b7_1, b8_1, b9_1, b10_1, b0_5, b1_5, b2_3, b3_3, t116, b2_5, b3_5, b4_5, b5_1))))
      (some (.inl (b0_2, b1_2, b6, b7, b8, b9, b10, b0_3, b1_3, b2_2, b3_2, b0_4, b1_4, b6_1, b7_1, b8_1, b9_1, b10_1, b0_5, b1_5, b2_3, b3_3, t116, b2_4, b3_4, b4_3, b5, b4_4, b2_5, b3_5, b4_5, b5_1))))
    (some (.inr (.inl (b0_2, b1_2, b6, b7, b8, b9, b10, b0_3, b1_3, b2_2, b3_2, b0_4, b1_4, b6_1, b7_1, b8_1, b9_1, b10_1, b0_5, b1_5, b2_3, b3_3, b4_2, b2_4, b3_4, b4_3, b5, b4_4, b2_5, b3_5, b4_5, b5_1))))
noncomputable def impl_ReplyOf_l3 (p0 : Bridge) (i1 : Pdu) (t77 : Int) (b0_10 : Int) (b1_10 : Int) (b2_10 : Int) (b3_10 : Int) (b4_10 : List Bind) : Option ((Int × Int × Int × Int × Int × List Bind) ⊕ (Int × Int × Int × Int × List Bind)) :=
  cond (decide (t77 < (i1.2.2.2.2.length : Int)))
    ((at? i1.2.2.2.2 t77).bind fun x79 =>
    (impl_MibNext p0 x79.1).bind fun t86 =>
    (app b4_10 [t86]).bind fun zs88 =>
    some (.inl (w64 (t77 + 1), b0_10, b1_10, b2_10, b3_10, zs88)))
    (some (.inr (b0_10, b1_10, b2_10, b3_10, b4_10)))
noncomputable def impl_ReplyOf_l5_1 (i1 : Pdu) (b0_12 : Int) (b1_12 : List UInt8) (b6_4 : Int) (b7_4 : Int) (b8_4 : Int) (b9_4 : Int) (b10_4 : Int) (b0_13 : Int) (b1_13 : Int) (b2_12 : Int) (b3_12 : Int) (b0_14 : Int) (b1_14 : List UInt8) (b6_5 : Int) (b7_5 : Int) (b8_5 : Int) (b9_5 : Int) (b10_5 : Int) (b0_15 : Int) (b1_15 : Int) (b2_13 : Int) (b3_13 : Int) (b4_12 : List Bind) (b2_14 : List Pt) (b3_14 : List Fent) (b4_13 : List Vrow) (b5_4 : List Int) (b4_14 : List Bind) (b2_15 : List Pt) (b3_15 : List Fent) (b4_15 : List Vrow) (b5_5 : List Int) : Option ((Int × List UInt8 × Int × Int × Int × Int × Int × Int × Int × Int × Int × Int × List UInt8 × Int × Int × Int × Int × Int × Int × Int × Int × Int × List Bind × List Pt × List Fent × List Vrow × List Int × List Bind × List Pt × List Fent × List Vrow × List Int) ⊕ ((Int × List UInt8 × Int × Int × Int × Int × Int × Int × Int × Int × Int × Int × List UInt8 × Int × Int × Int × Int × Int × Int × Int × Int × Int × List Bind × List Pt × List Fent × List Vrow × List Int × List Bind × List Pt × List Fent × List Vrow × List Int) ⊕ (Bool × Int × List UInt8 × Int × Int × Int × Int × Int × Int × Int × Int × Int × List Bind × List Pt × List Fent × List Vrow × List Int))) :=
  (cond (i1.1 == 165) (some (decide ((b4_12.length : Int) > 0))) (some false)).bind fun t109_1 =>
  cond t109_1
    ((cut b4_12 0 (w64 ((b4_12.length : Int) - 1))).bind fun t116_1 =>
    (impl_Fits (b0_15, b1_15, b2_13, b3_13, t116_1)).bind fun t119_1 =>
    cond t119_1
      (some (.inr (.inr (true, b0_14, b1_14, b6_5, b7_5, b8_5, b9_5, b10_5, b0_15, b1_15, b2_13, b3_13, t116_1, b2_15, b3_15, b4_15, b5_5))))
      (some (.inl (b0_12, b1_12, b6_4, b7_4, b8_4, b9_4, b10_4, b0_13, b1_13, b2_12, b3_12, b0_14, b1_14, b6_5, b7_5, b8_5, b9_5, b10_5, b0_15, b1_15, b2_13, b3_13, t116_1, b2_14, b3_14, b4_13, b5_4, b4_14, b2_15, b3_15, b4_15, b5_5))))
    (some (.inr (.inl (b0_12, b1_12, b6_4, b7_4, b8_4, b9_4, b10_4, b0_13, b1_13, b2_12, b3_12, b0_14, b1_14, b6_5, b7_5, b8_5, b9_5, b10_5, b0_15, b1_15, b2_13, b3_13, b4_12, b2_14, b3_14, b4_13, b5_4, b4_14, b2_15, b3_15, b4_15, b5_5))))
noncomputable def impl_ReplyOf_l5_2 (i1 : Pdu) (b0_20 : Int) (b1_20 : List UInt8) (b6_8 : Int) (b7_8 : Int) (b8_8 : Int) (b9_8 : Int) (b10_8 : Int) (b0_21 : Int) (b1_21 : Int) (b2_20 : Int) (b3_20 : Int) (b0_22 : Int) (b1_22 : List UInt8) (b6_9 : Int) (b7_9 : Int) (b8_9 : Int) (b9_9 : Int) (b10_9 : Int) (b0_23 : Int) (b1_23 : Int) (b2_21 : Int) (b3_21 : Int) (b4_20 : List Bind) (b2_22 : List Pt) (b3_22 : List Fent) (b4_21 : List Vrow) (b5_8 : List Int) (b4_22 : List Bind) (b2_23 : List Pt) (b3_23 : List Fent) (b4_23 : List Vrow) (b5_9 : List Int) : Option ((Int × List UInt8 × Int × Int × Int × Int × Int × Int × Int × Int × Int × Int × List UInt8 × Int × Int × Int × Int × Int × Int × Int × Int × Int × List Bind × List Pt × List Fent × List Vrow × List Int × List Bind × List Pt × List Fent × List Vrow × List Int) ⊕ ((Int × List UInt8 × Int × Int × Int × Int × Int × Int × Int × Int × Int × Int × List UInt8 × Int × Int × Int × Int × Int × Int × Int × Int × Int × List Bind × List Pt × List Fent × List Vrow × List Int × List Bind × List Pt × List Fent × List Vrow × List Int) ⊕ (Bool × Int × List UInt8 × Int × Int × Int × Int × Int × Int × Int × Int × Int × List Bind × List Pt × List Fent × List Vrow × List Int))) :=
  (cond (i1.1 == 165) (some (decide ((b4_20.length : Int) > 0))) (some false)).bind fun t109_2 =>
  cond t109_2
    ((cut b4_20 0 (w64 ((b4_20.length : Int) - 1))).bind fun t116_2 =>
    (impl_Fits (b0_23, b1_23, b2_21, b3_21, t116_2)).bind fun t119_2 =>
    cond t119_2
      (some (.inr (.inr (true, b0_22, b1_22, b6_9, b7_9, b8_9, b9_9, b10_9, b0_23, b1_23, b2_21, b3_21, t116_2, b2_23, b3_23, b4_23, b5_9))))
      (some (.inl (b0_20, b1_20, b6_8, b7_8, b8_8, b9_8, b10_8, b0_21, b1_21, b2_20, b3_20, b0_22, b1_22, b6_9, b7_9, b8_9, b9_9, b10_9, b0_23, b1_23, b2_21, b3_21, t116_2, b2_22, b3_22, b4_21, b5_8, b4_22, b2_23, b3_23, b4_23, b5_9))))
    (some (.inr (.inl (b0_20, b1_20, b6_8, b7_8, b8_8, b9_8, b10_8, b0_21, b1_21, b2_20, b3_20, b0_22, b1_22, b6_9, b7_9, b8_9, b9_9, b10_9, b0_23, b1_23, b2_21, b3_21, b4_20, b2_22, b3_22, b4_21, b5_8, b4_22, b2_23, b3_23, b4_23, b5_9))))
noncomputable def impl_ReplyOf_l5_3 (i1 : Pdu) (b0_28 : Int) (b1_28 : List UInt8) (b6_12 : Int) (b7_12 : Int) (b8_12 : Int) (b9_12 : Int) (b10_12 : Int) (b0_29 : Int) (b1_29 : Int) (b2_28 : Int) (b3_28 : Int) (b0_30 : Int) (b1_30 : List UInt8) (b6_13 : Int) (b7_13 : Int) (b8_13 : Int) (b9_13 : Int) (b10_13 : Int) (b0_31 : Int) (b1_31 : Int) (b2_29 : Int) (b3_29 : Int) (b4_28 : List Bind) (b2_30 : List Pt) (b3_30 : List Fent) (b4_29 : List Vrow) (b5_12 : List Int) (b4_30 : List Bind) (b2_31 : List Pt) (b3_31 : List Fent) (b4_31 : List Vrow) (b5_13 : List Int) : Option ((Int × List UInt8 × Int × Int × Int × Int × Int × Int × Int × Int × Int × Int × List UInt8 × Int × Int × Int × Int × Int × Int × Int × Int × Int × List Bind × List Pt × List Fent × List Vrow × List Int × List Bind × List Pt × List Fent × List Vrow × List Int) ⊕ ((Int × List UInt8 × Int × Int × Int × Int × Int × Int × Int × Int × Int × Int × List UInt8 × Int × Int × Int × Int × Int × Int × Int × Int × Int × List Bind × List Pt × List Fent × List Vrow × List Int × List Bind × List Pt × List Fent × List Vrow × List Int) ⊕ (Bool × Int × List UInt8 × Int × Int × Int × Int × Int × Int × Int × Int × Int × List Bind × List Pt × List Fent × List Vrow × List Int))) :=
  (cond (i1.1 == 165) (some (decide ((b4_28.length : Int) > 0))) (some false)).bind fun t109_3 =>
  cond t109_3
    ((cut b4_28 0 (w64 ((b4_28.length : Int) - 1))).bind fun t116_3 =>
    (impl_Fits (b0_31, b1_31, b2_29, b3_29, t116_3)).bind fun t119_3 =>
    cond t119_3
      (some (.inr (.inr (true, b0_30, b1_30, b6_13, b7_13, b8_13, b9_13, b10_13, b0_31, b1_31, b2_29, b3_29, t116_3, b2_31, b3_31, b4_31, b5_13))))
      (some (.inl (b0_28, b1_28, b6_12, b7_12, b8_12, b9_12, b10_12, b0_29, b1_29, b2_28, b3_28, b0_30, b1_30, b6_13, b7_13, b8_13, b9_13, b10_13, b0_31, b1_31, b2_29, b3_29, t116_3, b2_30, b3_30, b4_29, b5_12, b4_30, b2_31, b3_31, b4_31, b5_13))))
    (some (.inr (.inl (b0_28, b1_28, b6_12, b7_12, b8_12, b9_12, b10_12, b0_29, b1_29, b2_28, b3_28, b0_30, b1_30, b6_13, b7_13, b8_13, b9_13, b10_13, b0_31, b1_31, b2_29, b3_29, b4_28, b2_30, b3_30, b4_29, b5_12, b4_30, b2_31, b3_31, b4_31, b5_13))))
noncomputable def impl_ReplyOf (p0 : Bridge) (i1 : Pdu) : Option (Bridge × Pdu × Bool) :=
  (impl_copyBridge p0).bind fun t14 =>
  (impl_BridgeOk p0).bind fun t16 =>
  (cond (!t16)
    (some true)
    ((impl_PduOk i1).bind fun t20 =>
    some (!t20))).bind fun t22 =>
  (cond t22 (some true) (some (i1.1 == 162))).bind fun t27 =>
  cond t27
    (some (t14, (0, 0, 0, 0, []), false))
    (cond (i1.1 == 160)
      ((loop (fun z => impl_ReplyOf_l1 p0 i1 z.1 z.2.1 z.2.2.1 z.2.2.2.1 z.2.2.2.2.1 z.2.2.2.2.2) (0, 162, i1.2.1, 0, 0, [])).bind fun d =>
      (impl_Fits d).bind fun t98 =>
      cond t98
        (some (t14, d, true))
        ((loop (fun z => impl_ReplyOf_l5 i1 z.1 z.2.1 z.2.2.1 z.2.2.2.1 z.2.2.2.2.1 z.2.2.2.2.2.1 z.2.2.2.2.2.2.1 z.2.2.2.2.2.2.2.1 z.2.2.2.2.2.2.2.2.1 z.2.2.2.2.2.2.2.2.2.1 z.2.2.2.2.2.2.2.2.2.2.1 z.2.2.2.2.2.2.2.2.2.2.2.1 z.2.2.2.2.2.2.2.2.2.2.2.2.1 z.2.2.2.2.2.2.2.2.2.2.2.2.2.1 z.2.2.2.2.2.2.2.2.2.2.2.2.2.2.1 z.2.2.2.2.2.2.2.2.2.2.2.2.2.2.2.1 z.2.2.2.2.2.2.2.2.2.2.2.2.2.2.2.2.1 z.2.2.2.2.2.2.2.2.2.2.2.2.2.2.2.2.2.1 z.2.2.2.2.2.2.2.2.2.2.2.2.2.2.2.2.2.2.1 z.2.2.2.2.2.2.2.2.2.2.2.2.2.2.2.2.2.2.2.1 z.2.2.2.2.2.2.2.2.2.2.2.2.2.2.2.2.2.2.2.2.1 z.2.2.2.2.2.2.2.2.2.2.2.2.2.2.2.2.2.2.2.2.2.1 z.2.2.2.2.2.2.2.2.2.2.2.2.2.2.2.2.2.2.2.2.2.2.1 z.2.2.2.2.2.2.2.2.2.2.2.2.2.2.2.2.2.2.2.2.2.2.2.1 z.2.2.2.2.2.2.2.2.2.2.2.2.2.2.2.2.2.2.2.2.2.2.2.2.1 z.2.2.2.2.2.2.2.2.2.2.2.2.2.2.2.2.2.2.2.2.2.2.2.2.2.1 z.2.2.2.2.2.2.2.2.2.2.2.2.2.2.2.2.2.2.2.2.2.2.2.2.2.2.1 z.2.2.2.2.2.2.2.2.2.2.2.2.2.2.2.2.2.2.2.2.2.2.2.2.2.2.2.1 z.2.2.2.2.2.2.2.2.2.2.2.2.2.2.2.2.2.2.2.2.2.2.2.2.2.2.2.2.1 z.2.2.2.2.2.2.2.2.2.2.2.2.2.2.2.2.2.2.2.2.2.2.2.2.2.2.2.2.2.1 z.2.2.2.2.2.2.2.2.2.2.2.2.2.2.2.2.2.2.2.2.2.2.2.2.2.2.2.2.2.2.1 z.2.2.2.2.2.2.2.2.2.2.2.2.2.2.2.2.2.2.2.2.2.2.2.2.2.2.2.2.2.2.2) (0, [], 0, 0, 0, 0, 0, 0, 0, 0, 0, t14.1, t14.2.1, t14.2.2.2.2.2.2.1, t14.2.2.2.2.2.2.2.1, t14.2.2.2.2.2.2.2.2.1, t14.2.2.2.2.2.2.2.2.2.1, t14.2.2.2.2.2.2.2.2.2.2, d.1, d.2.1, d.2.2.1, d.2.2.2.1, d.2.2.2.2, [], [], [], [], [], t14.2.2.1, t14.2.2.2.1, t14.2.2.2.2.1, t14.2.2.2.2.2.1)).bind (Sum.elim (fun d_1 =>
          (impl_copyBridge p0).bind fun t123 =>
          some (t123, (162, i1.2.1, 7, 0, []), true)) (fun r => some ((r.2.1, r.2.2.1, r.2.2.2.2.2.2.2.2.2.2.2.2.2.1, r.2.2.2.2.2.2.2.2.2.2.2.2.2.2.1, r.2.2.2.2.2.2.2.2.2.2.2.2.2.2.2.1, r.2.2.2.2.2.2.2.2.2.2.2.2.2.2.2.2, r.2.2.2.1, r.2.2.2.2.1, r.2.2.2.2.2.1, r.2.2.2.2.2.2.1, r.2.2.2.2.2.2.2.1), (r.2.2.2.2.2.2.2.2.1, r.2.2.2.2.2.2.2.2.2.1, r.2.2.2.2.2.2.2.2.2.2.1, r.2.2.2.2.2.2.2.2.2.2.2.1, r.2.2.2.2.2.2.2.2.2.2.2.2.1), r.1)))))
      (cond (i1.1 == 161)
        ((loop (fun z => impl_ReplyOf_l3 p0 i1 z.1 z.2.1 z.2.2.1 z.2.2.2.1 z.2.2.2.2.1 z.2.2.2.2.2) (0, 162, i1.2.1, 0, 0, [])).bind fun d_2 =>
        (impl_Fits d_2).bind fun t98_1 =>
        cond t98_1
          (some (t14, d_2, true))
          ((loop (fun z => impl_ReplyOf_l5_1 i1 z.1 z.2.1 z.2.2.1 z.2.2.2.1 z.2.2.2.2.1 z.2.2.2.2.2.1 z.2.2.2.2.2.2.1 z.2.2.2.2.2.2.2.1 z.2.2.2.2.2.2.2.2.1 z.2.2.2.2.2.2.2.2.2.1 z.2.2.2.2.2.2.2.2.2.2.1 z.2.2.2.2.2.2.2.2.2.2.2.1 z.2.2.2.2.2.2.2.2.2.2.2.2.1 z.2.2.2.2.2.2.2.2.2.2.2.2.2.1 z.2.2.2.2.2.2.2.2.2.2.2.2.2.2.1 z.2.2.2.2.2.2.2.2.2.2.2.2.2.2.2.1 z.2.2.2.2.2.2.2.2.2.2.2.2.2.2.2.2.1 z.2.2.2.2.2.2.2.2.2.2.2.2.2.2.2.2.2.1 z.2.2.2.2.2.2.2.2.2.2.2.2.2.2.2.2.2.2.1 z.2.2.2.2.2.2.2.2.2.2.2.2.2.2.2.2.2.2.2.1 z.2.2.2.2.2.2.2.2.2.2.2.2.2.2.2.2.2.2.2.2.1 z.2.2.2.2.2.2.2.2.2.2.2.2.2.2.2.2.2.2.2.2.2.1 z.2.2.2.2.2.2.2.2.2.2.2.2.2.2.2.2.2.2.2.2.2.2.1 z.2.2.2.2.2.2.2.2.2.2.2.2.2.2.2.2.2.2.2.2.2.2.2.1 z.2.2.2.2.2.2.2.2.2.2.2.2.2.2.2.2.2.2.2.2.2.2.2.2.1 z.2.2.2.2.2.2.2.2.2.2.2.2.2.2.2.2.2.2.2.2.2.2.2.2.2.1 z.2.2.2.2.2.2.2.2.2.2.2.2.2.2.2.2.2.2.2.2.2.2.2.2.2.2.1 z.2.2.2.2.2.2.2.2.2.2.2.2.2.2.2.2.2.2.2.2.2.2.2.2.2.2.2.1 z.2.2.2.2.2.2.2.2.2.2.2.2.2.2.2.2.2.2.2.2.2.2.2.2.2.2.2.2.1 z.2.2.2.2.2.2.2.2.2.2.2.2.2.2.2.2.2.2.2.2.2.2.2.2.2.2.2.2.2.1 z.2.2.2.2.2.2.2.2.2.2.2.2.2.2.2.2.2.2.2.2.2.2.2.2.2.2.2.2.2.2.1 z.2.2.2.2.2.2.2.2.2.2.2.2.2.2.2.2.2.2.2.2.2.2.2.2.2.2.2.2.2.2.2) (0, [], 0, 0, 0, 0, 0, 0, 0, 0, 0, t14.1, t14.2.1, t14.2.2.2.2.2.2.1, t14.2.2.2.2.2.2.2.1, t14.2.2.2.2.2.2.2.2.1, t14.2.2.2.2.2.2.2.2.2.1, t14.2.2.2.2.2.2.2.2.2.2, d_2.1, d_2.2.1, d_2.2.2.1, d_2.2.2.2.1, d_2.2.2.2.2, [], [], [], [], [], t14.2.2.1, t14.2.2.2.1, t14.2.2.2.2.1, t14.2.2.2.2.2.1)).bind (Sum.elim (fun d_3 =>
            (impl_copyBridge p0).bind fun t123_1 =>
            some (t123_1, (162, i1.2.1, 7, 0, []), true)) (fun r_1 => some ((r_1.2.1, r_1.2.2.1, r_1.2.2.2.2.2.2.2.2.2.2.2.2.2.1, r_1.2.2.2.2.2.2.2.2.2.2.2.2.2.2.1, r_1.2.2.2.2.2.2.2.2.2.2.2.2.2.2.2.1, r_1.2.2.2.2.2.2.2.2.2.2.2.2.2.2.2.2, r_1.2.2.2.1, r_1.2.2.2.2.1, r_1.2.2.2.2.2.1, r_1.2.2.2.2.2.2.1, r_1.2.2.2.2.2.2.2.1), (r_1.2.2.2.2.2.2.2.2.1, r_1.2.2.2.2.2.2.2.2.2.1, r_1.2.2.2.2.2.2.2.2.2.2.1, r_1.2.2.2.2.2.2.2.2.2.2.2.1, r_1.2.2.2.2.2.2.2.2.2.2.2.2.1), r_1.1)))))
        (cond (i1.1 == 165)
          ((impl_bulk p0 i1).bind fun t95 =>
          (impl_Fits (162, i1.2.1, 0, 0, t95)).bind fun t98_2 =>
          cond t98_2
            (some (t14, (162, i1.2.1, 0, 0, t95), true))
            ((loop (fun z => impl_ReplyOf_l5_2 i1 z.1 z.2.1 z.2.2.1 z.2.2.2.1 z.2.2.2.2.1 z.2.2.2.2.2.1 z.2.2.2.2.2.2.1 z.2.2.2.2.2.2.2.1 z.2.2.2.2.2.2.2.2.1 z.2.2.2.2.2.2.2.2.2.1 z.2.2.2.2.2.2.2.2.2.2.1 z.2.2.2.2.2.2.2.2.2.2.2.1 z.2.2.2.2.2.2.2.2.2.2.2.2.1 z.2.2.2.2.2.2.2.2.2.2.2.2.2.1 z.2.2.2.2.2.2.2.2.2.2.2.2.2.2.1 z.2.2.2.2.2.2.2.2.2.2.2.2.2.2.2.1 z.2.2.2.2.2.2.2.2.2.2.2.2.2.2.2.2.1 z.2.2.2.2.2.2.2.2.2.2.2.2.2.2.2.2.2.1 z.2.2.2.2.2.2.2.2.2.2.2.2.2.2.2.2.2.2.1 z.2.2.2.2.2.2.2.2.2.2.2.2.2.2.2.2.2.2.2.1 z.2.2.2.2.2.2.2.2.2.2.2.2.2.2.2.2.2.2.2.2.1 z.2.2.2.2.2.2.2.2.2.2.2.2.2.2.2.2.2.2.2.2.2.1 z.2.2.2.2.2.2.2.2.2.2.2.2.2.2.2.2.2.2.2.2.2.2.1 z.2.2.2.2.2.2.2.2.2.2.2.2.2.2.2.2.2.2.2.2.2.2.2.1 z.2.2.2.2.2.2.2.2.2.2.2.2.2.2.2.2.2.2.2.2.2.2.2.2.1 z.2.2.2.2.2.2.2.2.2.2.2.2.2.2.2.2.2.2.2.2.2.2.2.2.2.1 z.2.2.2.2.2.2.2.2.2.2.2.2.2.2.2.2.2.2.2.2.2.2.2.2.2.2.1 z.2.2.2.2.2.2.2.2.2.2.2.2.2.2.2.2.2.2.2.2.2.2.2.2.2.2.2.1 z.2.2.2.2.2.2.2.2.2.2.2.2.2.2.2.2.2.2.2.2.2.2.2.2.2.2.2.2.1 z.2.2.2.2.2.2.2.2.2.2.2.2.2.2.2.2.2.2.2.2.2.2.2.2.2.2.2.2.2.1 z.2.2.2.2.2.2.2.2.2.2.2.2.2.2.2.2.2.2.2.2.2.2.2.2.2.2.2.2.2.2.1 z.2.2.2.2.2.2.2.2.2.2.2.2.2.2.2.2.2.2.2.2.2.2.2.2.2.2.2.2.2.2.2) (0, [], 0, 0, 0, 0, 0, 0, 0, 0, 0, t14.1, t14.2.1, t14.2.2.2.2.2.2.1, t14.2.2.2.2.2.2.2.1, t14.2.2.2.2.2.2.2.2.1, t14.2.2.2.2.2.2.2.2.2.1, t14.2.2.2.2.2.2.2.2.2.2, 162, i1.2.1, 0, 0, t95, [], [], [], [], [], t14.2.2.1, t14.2.2.2.1, t14.2.2.2.2.1, t14.2.2.2.2.2.1)).bind (Sum.elim (fun d_4 =>
              (impl_copyBridge p0).bind fun t123_2 =>
              some (t123_2, (162, i1.2.1, 7, 0, []), true)) (fun r_2 => some ((r_2.2.1, r_2.2.2.1, r_2.2.2.2.2.2.2.2.2.2.2.2.2.2.1, r_2.2.2.2.2.2.2.2.2.2.2.2.2.2.2.1, r_2.2.2.2.2.2.2.2.2.2.2.2.2.2.2.2.1, r_2.2.2.2.2.2.2.2.2.2.2.2.2.2.2.2.2, r_2.2.2.2.1, r_2.2.2.2.2.1, r_2.2.2.2.2.2.1, r_2.2.2.2.2.2.2.1, r_2.2.2.2.2.2.2.2.1), (r_2.2.2.2.2.2.2.2.2.1, r_2.2.2.2.2.2.2.2.2.2.1, r_2.2.2.2.2.2.2.2.2.2.2.1, r_2.2.2.2.2.2.2.2.2.2.2.2.1, r_2.2.2.2.2.2.2.2.2.2.2.2.2.1), r_2.1)))))
          ((impl_SetAll p0 i1.2.2.2.2).bind fun t39 =>
          (impl_copyBinds i1.2.2.2.2).bind fun t47 =>
          (impl_Fits (162, i1.2.1, t39.2.1, t39.2.2, t47)).bind fun t98_3 =>
          cond t98_3
            (some (t39.1, (162, i1.2.1, t39.2.1, t39.2.2, t47), true))
            ((loop (fun z => impl_ReplyOf_l5_3 i1 z.1 z.2.1 z.2.2.1 z.2.2.2.1 z.2.2.2.2.1 z.2.2.2.2.2.1 z.2.2.2.2.2.2.1 z.2.2.2.2.2.2.2.1 z.2.2.2.2.2.2.2.2.1 z.2.2.2.2.2.2.2.2.2.1 z.2.2.2.2.2.2.2.2.2.2.1 z.2.2.2.2.2.2.2.2.2.2.2.1 z.2.2.2.2.2.2.2.2.2.2.2.2.1 z.2.2.2.2.2.2.2.2.2.2.2.2.2.1 z.2.2.2.2.2.2.2.2.2.2.2.2.2.2.1 z.2.2.2.2.2.2.2.2.2.2.2.2.2.2.2.1 z.2.2.2.2.2.2.2.2.2.2.2.2.2.2.2.2.1 z.2.2.2.2.2.2.2.2.2.2.2.2.2.2.2.2.2.1 z.2.2.2.2.2.2.2.2.2.2.2.2.2.2.2.2.2.2.1 z.2.2.2.2.2.2.2.2.2.2.2.2.2.2.2.2.2.2.2.1 z.2.2.2.2.2.2.2.2.2.2.2.2.2.2.2.2.2.2.2.2.1 z.2.2.2.2.2.2.2.2.2.2.2.2.2.2.2.2.2.2.2.2.2.1 z.2.2.2.2.2.2.2.2.2.2.2.2.2.2.2.2.2.2.2.2.2.2.1 z.2.2.2.2.2.2.2.2.2.2.2.2.2.2.2.2.2.2.2.2.2.2.2.1 z.2.2.2.2.2.2.2.2.2.2.2.2.2.2.2.2.2.2.2.2.2.2.2.2.1 z.2.2.2.2.2.2.2.2.2.2.2.2.2.2.2.2.2.2.2.2.2.2.2.2.2.1 z.2.2.2.2.2.2.2.2.2.2.2.2.2.2.2.2.2.2.2.2.2.2.2.2.2.2.1 z.2.2.2.2.2.2.2.2.2.2.2.2.2.2.2.2.2.2.2.2.2.2.2.2.2.2.2.1 z.2.2.2.2.2.2.2.2.2.2.2.2.2.2.2.2.2.2.2.2.2.2.2.2.2.2.2.2.1 z.2.2.2.2.2.2.2.2.2.2.2.2.2.2.2.2.2.2.2.2.2.2.2.2.2.2.2.2.2.1 z.2.2.2.2.2.2.2.2.2.2.2.2.2.2.2.2.2.2.2.2.2.2.2.2.2.2.2.2.2.2.1 z.2.2.2.2.2.2.2.2.2.2.2.2.2.2.2.2.2.2.2.2.2.2.2.2.2.2.2.2.2.2.2) (0, [], 0, 0, 0, 0, 0, 0, 0, 0, 0, t39.1.1, t39.1.2.1, t39.1.2.2.2.2.2.2.1, t39.1.2.2.2.2.2.2.2.1, t39.1.2.2.2.2.2.2.2.2.1, t39.1.2.2.2.2.2.2.2.2.2.1, t39.1.2.2.2.2.2.2.2.2.2.2, 162, i1.2.1, t39.2.1, t39.2.2, t47, [], [], [], [], [], t39.1.2.2.1, t39.1.2.2.2.1, t39.1.2.2.2.2.1, t39.1.2.2.2.2.2.1)).bind (Sum.elim (fun d_5 =>
              (impl_copyBridge p0).bind fun t123_3 =>
              some (t123_3, (162, i1.2.1, 7, 0, []), true)) (fun r_3 => some ((r_3.2.1, r_3.2.2.1, r_3.2.2.2.2.2.2.2.2.2.2.2.2.2.1, r_3.2.2.2.2.2.2.2.2.2.2.2.2.2.2.1, r_3.2.2.2.2.2.2.2.2.2.2.2.2.2.2.2.1, r_3.2.2.2.2.2.2.2.2.2.2.2.2.2.2.2.2, r_3.2.2.2.1, r_3.2.2.2.2.1, r_3.2.2.2.2.2.1, r_3.2.2.2.2.2.2.1, r_3.2.2.2.2.2.2.2.1), (r_3.2.2.2.2.2.2.2.2.1, r_3.2.2.2.2.2.2.2.2.2.1, r_3.2.2.2.2.2.2.2.2.2.2.1, r_3.2.2.2.2.2.2.2.2.2.2.2.1, r_3.2.2.2.2.2.2.2.2.2.2.2.2.1), r_3.1))))))))
noncomputable def F_impl_ReplyOf : Fn := ⟨[.val true cBridge false, .val true cPdu false], [.val true cBridge true, .val true cPdu false, .val false (.one .bool) true], fun a => impl_ReplyOf a.1 a.2⟩
def a_impl_ReplyOf : List (Nat × LoopAnn) := [(1, ⟨⟨[(54, false, [.dat (.int .i64)])], [(1052672, .box [.dat (.int .i64), .dat (.int .i64), .dat (.int .i64), .dat (.int .i64), .own 1000001000]), (1000001000, .root cBind false)]⟩,
    ⟨[], [(1052672, .box [.dat (.int .i64), .dat (.int .i64), .dat (.int .i64), .dat (.int .i64), .own 1000001300]), (1000001300, .root cBind false)]⟩, none⟩),
  (3, ⟨⟨[(77, false, [.dat (.int .i64)])], [(1052672, .box [.dat (.int .i64), .dat (.int .i64), .dat (.int .i64), .dat (.int .i64), .own 1000003000]), (1000003000, .root cBind false)]⟩,
    ⟨[], [(1052672, .box [.dat (.int .i64), .dat (.int .i64), .dat (.int .i64), .dat (.int .i64), .own 1000003300]), (1000003300, .root cBind false)]⟩, none⟩),
  (5, ⟨⟨[(105, false, [.undef]), (106, false, [.undef]), (107, false, [.undef]), (108, false, [.undef])], [(3072, .box [.dat (.int .i64), .dat .str, .own 1000005000, .own 1000005001, .own 1000005002, .own 1000005003, .dat (.int .i64), .dat (.int .i64), .dat (.int .i64), .dat (.int .i64), .dat (.int .i64)]), (4096, .box [.dat (.int .i64), .dat (.int .i64), .dat (.int .i64), .dat (.int .i64), .own 1000005004]), (265216, .box [.dat (.int .i64), .dat .str, .own 1000005005, .own 1000005006, .own 1000005007, .own 1000005008, .dat (.int .i64), .dat (.int .i64), .dat (.int .i64), .dat (.int .i64), .dat (.int .i64)]), (1052672, .box [.dat (.int .i64), .dat (.int .i64), .dat (.int .i64), .dat (.int .i64), .dat (.sl cBind)]), (1000005000, .root cPt true), (1000005001, .root cFent true), (1000005002, .root cVrow true), (1000005003, .root (.one (.int .i64)) true), (1000005004, .root cBind true), (1000005005, .root cPt true), (1000005006, .root cFent true), (1000005007, .root cVrow true), (1000005008, .root (.one (.int .i64)) true)]⟩,
    ⟨[], [(3072, .box [.dat (.int .i64), .dat .str, .own 1000005300, .own 1000005301, .own 1000005302, .own 1000005303, .dat (.int .i64), .dat (.int .i64), .dat (.int .i64), .dat (.int .i64), .dat (.int .i64)]), (4096, .box [.dat (.int .i64), .dat (.int .i64), .dat (.int .i64), .dat (.int .i64), .own 1000005304]), (265216, .box [.dat (.int .i64), .dat .str, .own 1000005305, .own 1000005306, .own 1000005307, .own 1000005308, .dat (.int .i64), .dat (.int .i64), .dat (.int .i64), .dat (.int .i64), .dat (.int .i64)]), (1052672, .box [.dat (.int .i64), .dat (.int .i64), .dat (.int .i64), .dat (.int .i64), .dat (.sl cBind)]), (1000005300, .root cPt true), (1000005301, .root cFent true), (1000005302, .root cVrow true), (1000005303, .root (.one (.int .i64)) true), (1000005304, .root cBind true), (1000005305, .root cPt true), (1000005306, .root cFent true), (1000005307, .root cVrow true), (1000005308, .root (.one (.int .i64)) true)]⟩, some ⟨[(6, false, [.dat .bool])], [(3072, .box [.dat (.int .i64), .dat .str, .own 1000005600, .own 1000005601, .own 1000005602, .own 1000005603, .dat (.int .i64), .dat (.int .i64), .dat (.int .i64), .dat (.int .i64), .dat (.int .i64)]), (4096, .box [.dat (.int .i64), .dat (.int .i64), .dat (.int .i64), .dat (.int .i64), .dat (.sl cBind)]), (1000005600, .root cPt true), (1000005601, .root cFent true), (1000005602, .root cVrow true), (1000005603, .root (.one (.int .i64)) true)]⟩⟩)]
theorem e_impl_ReplyOf : fnDen ⟨tis, fns_84, [], false⟩ a_impl_ReplyOf Tryz.f16 (codeOf Tryz.f16) [.val true cBridge false, .val true cPdu false] [.val true cBridge true, .val true cPdu false, .val false (.one .bool) true] = fun a => impl_ReplyOf a.1 a.2 := by kernel_rfl
theorem m_impl_ReplyOf : Meets Tryz.prog 16 F_impl_ReplyOf := by
  have h := meets_of (ann := a_impl_ReplyOf) (ps := [.val true cBridge false, .val true cPdu false]) (rs := [.val true cBridge true, .val true cPdu false, .val false (.one .bool) true]) g_84 mixed Tryz.func16 (by kernel_rfl) (by kernel_rfl : Tryz.f16.body = some (codeOf Tryz.f16))
  rw [e_impl_ReplyOf] at h
  exact h
noncomputable def fns_16 : List (FuncId × Fn) := (16, F_impl_ReplyOf) :: fns_84
theorem g_16 : Good Tryz.prog ⟨tis, fns_16, [], false⟩ := g_84.cons m_impl_ReplyOf
noncomputable def impl_Walk_l0 (b0 : Bridge) (n2 : Int) (o8 : List Int) (out7 : List Bind) : Option ((List Int × List Bind) ⊕ (List Bind)) :=
  (impl_in n2 0 200).bind fun t12 =>
  (cond t12 (some (decide ((out7.length : Int) < n2))) (some false)).bind fun t18 =>
  cond t18
    ((impl_MibNext b0 o8).bind fun t21 =>
    cond (t21.2.1 == 130)
      (some (.inr out7))
      ((app out7 [t21]).bind fun zs29 =>
      some (.inl (t21.1, zs29))))
    (some (.inr out7))
noncomputable def impl_Walk (b0 : Bridge) (from1 : List Int) (n2 : Int) : Option (List Bind) :=
  (loop (fun z => impl_Walk_l0 b0 n2 z.1 z.2) (from1, [])).bind fun d =>
  some d
noncomputable def F_impl_Walk : Fn := ⟨[.val true cBridge false, .val false (.one (.sl (.one (.int .i64)))) false, .val false (.one (.int .i64)) false], [.val false (.one (.sl cBind)) false], fun a => impl_Walk a.1 a.2.1 a.2.2⟩
def a_impl_Walk : List (Nat × LoopAnn) := [(0, ⟨⟨[(7, false, [.own 1000000000]), (8, false, [.dat (.sl (.one (.int .i64)))]), (14, false, [.undef]), (15, false, [.undef]), (16, false, [.undef]), (17, false, [.undef])], [(1000000000, .root cBind false)]⟩,
    ⟨[(7, false, [.own 1000000300])], [(1000000300, .root cBind false)]⟩, none⟩)]
theorem e_impl_Walk : fnDen ⟨tis, fns_16, [], false⟩ a_impl_Walk Tryz.f17 (codeOf Tryz.f17) [.val true cBridge false, .val false (.one (.sl (.one (.int .i64)))) false, .val false (.one (.int .i64)) false] [.val false (.one (.sl cBind)) false] = fun a => impl_Walk a.1 a.2.1 a.2.2 := by kernel_rfl
theorem m_impl_Walk : Meets Tryz.prog 17 F_impl_Walk := by
  have h := meets_of (ann := a_impl_Walk) (ps := [.val true cBridge false, .val false (.one (.sl (.one (.int .i64)))) false, .val false (.one (.int .i64)) false]) (rs := [.val false (.one (.sl cBind)) false]) g_16 mixed Tryz.func17 (by kernel_rfl) (by kernel_rfl : Tryz.f17.body = some (codeOf Tryz.f17))
  rw [e_impl_Walk] at h
  exact h
noncomputable def fns_17 : List (FuncId × Fn) := (17, F_impl_Walk) :: fns_16
theorem g_17 : Good Tryz.prog ⟨tis, fns_17, [], false⟩ := g_16.cons m_impl_Walk
noncomputable def laws_last (l0 : List Bind) (o1 : List Int) : Option (List Int) :=
  cond ((l0.length : Int) == 0)
    (some o1)
    ((at? l0 (w64 ((l0.length : Int) - 1))).bind fun x13 =>
    some x13.1)
noncomputable def F_laws_last : Fn := ⟨[.val false (.one (.sl cBind)) false, .val false (.one (.sl (.one (.int .i64)))) false], [.val false (.one (.sl (.one (.int .i64)))) false], fun a => laws_last a.1 a.2⟩
def a_laws_last : List (Nat × LoopAnn) := []
theorem e_laws_last : fnDen ⟨tis, fns_17, [], false⟩ a_laws_last Tryz.f21 (codeOf Tryz.f21) [.val false (.one (.sl cBind)) false, .val false (.one (.sl (.one (.int .i64)))) false] [.val false (.one (.sl (.one (.int .i64)))) false] = fun a => laws_last a.1 a.2 := by kernel_rfl
theorem m_laws_last : Meets Tryz.prog 21 F_laws_last := by
  have h := meets_of (ann := a_laws_last) (ps := [.val false (.one (.sl cBind)) false, .val false (.one (.sl (.one (.int .i64)))) false]) (rs := [.val false (.one (.sl (.one (.int .i64)))) false]) g_17 mixed Tryz.func21 (by kernel_rfl) (by kernel_rfl : Tryz.f21.body = some (codeOf Tryz.f21))
  rw [e_laws_last] at h
  exact h
noncomputable def fns_21 : List (FuncId × Fn) := (21, F_laws_last) :: fns_17
theorem g_21 : Good Tryz.prog ⟨tis, fns_21, [], false⟩ := g_17.cons m_laws_last
noncomputable def laws_FnBulks_l0 (t30 : Bridge × Pdu × Bool) (t46 : List Bind) (t10 : Int) : Option (Int ⊕ (Unit ⊕ Bool)) :=
  cond (decide (t10 < (t30.2.1.2.2.2.2.length : Int)))
    ((cond (decide (t10 < (t46.length : Int)))
      ((at? t30.2.1.2.2.2.2 t10).bind fun x62 =>
      (at? t46 t10).bind fun x67 =>
      (impl_SameOid x62.1 x67.1).bind fun t70 =>
      (cond (!t70)
        (some true)
        ((at? t30.2.1.2.2.2.2 t10).bind fun x76 =>
        (at? t46 t10).bind fun x81 =>
        (impl_SameVal x76.2 x81.2).bind fun t84 =>
        some (!t84))).bind fun t86 =>
      some t86)
      (some false)).bind fun t87 =>
    (cond t87
      (some true)
      ((cond (decide (t10 ≥ (t46.length : Int)))
        ((at? t30.2.1.2.2.2.2 t10).bind fun x97 =>
        some (x97.2.1 != 130))
        (some false)).bind fun t102 =>
      some t102)).bind fun t103 =>
    cond t103 (some (.inr (.inr false))) (some (.inl (w64 (t10 + 1)))))
    (some (.inr (.inl ())))
noncomputable def laws_FnBulks (p0 : List Int) : Option Bool :=
  (laws_big p0).bind fun t13 =>
  cond t13
    (some true)
    ((spec_DrawNamed p0).bind fun t16 =>
    (laws_at p0 2).bind fun t20 =>
    (impl_ReplyOf t16.1 (165, 1, 0, t20.tmod 7, [(t16.2, 5, 0, [], [])])).bind fun t30 =>
    (cond (!t30.2.2)
      (some true)
      (some (decide ((t30.2.1.2.2.2.2.length : Int) > (t20.tmod 7))))).bind fun t42 =>
    cond t42
      (some false)
      ((impl_Walk t16.1 t16.2 (t20.tmod 7)).bind fun t46 =>
      (loop (fun z => laws_FnBulks_l0 t30 t46 z) 0).bind (Sum.elim (fun d =>
        cond ((t30.2.1.2.2.2.2.length : Int) == (t20.tmod 7))
          (some (t30.2.1.2.2.1 == 0))
          ((app ([] : List Bind) t30.2.1.2.2.2.2).bind fun zs115 =>
          (laws_last t30.2.1.2.2.2.2 t16.2).bind fun t120 =>
          (impl_MibNext t16.1 t120).bind fun t121 =>
          (app zs115 [t121]).bind fun zs123 =>
          (impl_Fits (162, 1, 0, 0, zs123)).bind fun t126 =>
          (cond (!t126) (some (t30.2.1.2.2.1 == 0)) (some false)).bind fun t132 =>
          some t132)) (fun r => some r))))
noncomputable def F_laws_FnBulks : Fn := ⟨[.val false (.one (.sl (.one (.int .u8)))) false], [.val false (.one .bool) true], fun a => laws_FnBulks a⟩
def a_laws_FnBulks : List (Nat × LoopAnn) := [(0, ⟨⟨[(10, false, [.dat (.int .i64)]), (59, false, [.undef]), (60, false, [.undef]), (61, false, [.undef]), (62, false, [.undef]), (63, false, [.undef]), (64, false, [.undef]), (65, false, [.undef]), (66, false, [.undef]), (67, false, [.undef]), (68, false, [.undef]), (69, false, [.undef]), (70, false, [.undef]), (71, false, [.undef]), (72, false, [.undef]), (73, false, [.undef]), (74, false, [.undef]), (75, false, [.undef]), (76, false, [.undef]), (77, false, [.undef]), (78, false, [.undef]), (79, false, [.undef]), (80, false, [.undef]), (81, false, [.undef]), (82, false, [.undef]), (83, false, [.undef]), (84, false, [.undef]), (85, false, [.undef]), (86, false, [.undef]), (89, false, [.undef]), (90, false, [.undef]), (91, false, [.undef]), (92, false, [.undef]), (93, false, [.undef]), (94, false, [.undef]), (95, false, [.undef]), (96, false, [.undef]), (97, false, [.undef]), (98, false, [.undef]), (99, false, [.undef]), (100, false, [.undef]), (101, false, [.undef]), (102, false, [.undef])], []⟩,
    ⟨[], []⟩, some ⟨[(2, false, [.dat .bool])], []⟩⟩)]
theorem e_laws_FnBulks : fnDen ⟨tis, fns_21, [], false⟩ a_laws_FnBulks Tryz.f3 (codeOf Tryz.f3) [.val false (.one (.sl (.one (.int .u8)))) false] [.val false (.one .bool) true] = fun a => laws_FnBulks a := by kernel_rfl
theorem m_laws_FnBulks : Meets Tryz.prog 3 F_laws_FnBulks := by
  have h := meets_of (ann := a_laws_FnBulks) (ps := [.val false (.one (.sl (.one (.int .u8)))) false]) (rs := [.val false (.one .bool) true]) g_21 mixed Tryz.func3 (by kernel_rfl) (by kernel_rfl : Tryz.f3.body = some (codeOf Tryz.f3))
  rw [e_laws_FnBulks] at h
  exact h
noncomputable def spec_l11Copy (b0 : Bridge) : Option Bridge :=
  (app ([] : List Pt) b0.2.2.1).bind fun zs8 =>
  (spec_l8Copy b0.2.2.2.1).bind fun t12 =>
  (spec_l9Copy (b0.2.2.2.2.1, b0.2.2.2.2.2.1)).bind fun t16 =>
  some (b0.1, b0.2.1, zs8, t12, t16.1, t16.2, b0.2.2.2.2.2.2.1, b0.2.2.2.2.2.2.2.1, b0.2.2.2.2.2.2.2.2.1, b0.2.2.2.2.2.2.2.2.2.1, b0.2.2.2.2.2.2.2.2.2.2)
noncomputable def spec_SameOid_l0 (a0 : List Int) (b1 : List Int) (i5 : Int) : Option (Int ⊕ (Unit ⊕ Bool)) :=
  cond (decide (i5 < (a0.length : Int)))
    ((at? a0 i5).bind fun x19 =>
    (at? b1 i5).bind fun x23 =>
    cond (x19 != x23) (some (.inr (.inr false))) (some (.inl (w64 (i5 + 1)))))
    (some (.inr (.inl ())))
noncomputable def spec_SameOid (a0 : List Int) (b1 : List Int) : Option Bool :=
  cond ((a0.length : Int) != (b1.length : Int))
    (some false)
    ((loop (fun z => spec_SameOid_l0 a0 b1 z) 0).bind (Sum.elim (fun d =>
      some true) (fun r => some r)))
noncomputable def spec_Below (o0 : List Int) (head1 : List Int) : Option Bool :=
  (cond (decide ((o0.length : Int) > (head1.length : Int)))
    ((cut o0 0 (head1.length : Int)).bind fun t14 =>
    (spec_SameOid t14 head1).bind fun t16 =>
    some t16)
    (some false)).bind fun t17 =>
  some t17
noncomputable def spec_l18Below (o0 : List Int) : Option ((List Int) × Bool) :=
  (spec_Below o0 ([1, 3, 1] : List Int)).bind fun t6 =>
  cond (!t6)
    (some (([] : List Int), false))
    ((cut o0 3 (o0.length : Int)).bind fun t10 =>
    some (t10, true))
noncomputable def spec_l18May (p0 : Bridge) (i1 : List Int) : Option Bool :=
  (spec_l18Below i1).bind fun t9 =>
  cond (!t9.2)
    (some false)
    (cond ((t9.1.length : Int) == 2)
      ((at? t9.1 0).bind fun x18 =>
      (cond (x18 == 1)
        ((at? t9.1 1).bind fun x23 =>
        some (x23 == 1))
        (some false)).bind fun t26 =>
      some t26)
      (cond ((t9.1.length : Int) != 3)
        (some false)
        ((at? t9.1 0).bind fun x31 =>
        cond (x31 == 2)
          ((at? t9.1 1).bind fun x36 =>
          (cond (x36 == 2)
            (some true)
            ((at? t9.1 1).bind fun x41 =>
            some (x41 == 4))).bind fun t44 =>
          (cond t44
            ((at? t9.1 2).bind fun x47 =>
            (spec_l1In x47 1 (p0.2.2.1.length : Int)).bind fun t52 =>
            some t52)
            (some false)).bind fun t53 =>
          some t53)
          (cond (x31 == 3)
            ((at? t9.1 1).bind fun x57 =>
            (cond (x57 == 1)
              ((at? t9.1 2).bind fun x62 =>
              (spec_l1In x62 1 99).bind fun t64 =>
              some t64)
              (some false)).bind fun t65 =>
            (cond t65
              (some true)
              ((at? t9.1 1).bind fun x68 =>
              (cond (x68 == 2)
                (some true)
                ((at? t9.1 1).bind fun x73 =>
                some (x73 == 3))).bind fun t76 =>
              (cond t76
                ((at? t9.1 2).bind fun x81 =>
                (spec_RowAt (p0.2.2.2.2.1, p0.2.2.2.2.2.1) x81).bind fun t83 =>
                some (decide (t83 ≥ 0)))
                (some false)).bind fun t85 =>
              some t85)).bind fun t86 =>
            some t86)
            (some false)))))
noncomputable def spec_l18Seen (p0 : Bridge) (i1 : List Int) : Option Bool :=
  (spec_l18Below i1).bind fun t9 =>
  cond (!t9.2)
    (some false)
    (cond ((t9.1.length : Int) == 2)
      ((at? t9.1 0).bind fun x19 =>
      (cond (x19 == 1)
        ((at? t9.1 1).bind fun x24 =>
        (spec_l1In x24 2 5).bind fun t26 =>
        some t26)
        (some false)).bind fun t27 =>
      some t27)
      (cond ((t9.1.length : Int) == 3)
        ((at? t9.1 0).bind fun x31 =>
        (cond (x31 == 2)
          ((at? t9.1 1).bind fun x36 =>
          (cond (x36 == 1)
            (some true)
            ((at? t9.1 1).bind fun x41 =>
            some (x41 == 3))).bind fun t44 =>
          some t44)
          (some false)).bind fun t45 =>
        (cond t45
          ((at? t9.1 2).bind fun x48 =>
          (spec_l1In x48 1 (p0.2.2.1.length : Int)).bind fun t53 =>
          some t53)
          (some false)).bind fun t54 =>
        some t54)
        (cond ((t9.1.length : Int) == 4)
          ((at? t9.1 0).bind fun x58 =>
          (cond (x58 == 4)
            ((at? t9.1 1).bind fun x63 =>
            some (x63 == 1))
            (some false)).bind fun t66 =>
          (cond t66
            ((at? t9.1 2).bind fun x71 =>
            (at? t9.1 3).bind fun x74 =>
            (spec_l8At p0.2.2.2.1 x71 x74).bind fun t76 =>
            some (decide (t76 ≥ 0)))
            (some false)).bind fun t78 =>
          some t78)
          (some false))))
noncomputable def spec_l18Port (b0 : Bridge) (c1 : Int) (p2 : Int) (n3 : Int) : Option (Bridge × Int) :=
  cond (c1 == 2)
    ((spec_l1In n3 1 1000).bind fun t13 =>
    cond (!t13)
      (some (b0, 2))
      ((ix b0.2.2.1.length p2).bind fun j20 =>
      (b0.2.2.1[j20]?).bind fun x =>
      some ((b0.1, b0.2.1, b0.2.2.1.set j20 (x.1, n3, x.2.2.1, x.2.2.2.1, x.2.2.2.2.1, x.2.2.2.2.2.1, x.2.2.2.2.2.2.1, x.2.2.2.2.2.2.2), b0.2.2.2.1, b0.2.2.2.2.1, b0.2.2.2.2.2.1, b0.2.2.2.2.2.2.1, b0.2.2.2.2.2.2.2.1, b0.2.2.2.2.2.2.2.2.1, b0.2.2.2.2.2.2.2.2.2.1, b0.2.2.2.2.2.2.2.2.2.2), 0)))
    ((ix b0.2.2.2.2.2.1.length p2).bind fun j28 =>
    (b0.2.2.2.2.2.1[j28]?).bind fun x_1 =>
    some ((b0.1, b0.2.1, b0.2.2.1, b0.2.2.2.1, b0.2.2.2.2.1, b0.2.2.2.2.2.1.set j28 n3, b0.2.2.2.2.2.2.1, b0.2.2.2.2.2.2.2.1, b0.2.2.2.2.2.2.2.2.1, b0.2.2.2.2.2.2.2.2.2.1, b0.2.2.2.2.2.2.2.2.2.2), 0))
noncomputable def spec_l18Status (b0 : Bridge) (id1 : Int) (n2 : Int) : Option (Bridge × Int) :=
  (spec_RowAt (b0.2.2.2.2.1, b0.2.2.2.2.2.1) id1).bind fun t12 =>
  (cond (n2 == 4) (some (decide (t12 < 0))) (some false)).bind fun t19 =>
  (cond t19 (some (decide ((b0.2.2.2.2.1.length : Int) < 6))) (some false)).bind fun t26 =>
  cond t26
    ((spec_l9Row (b0.2.2.2.2.1, b0.2.2.2.2.2.1) (id1, 0, 0)).bind fun t31 =>
    some ((b0.1, b0.2.1, b0.2.2.1, b0.2.2.2.1, t31.1, t31.2, b0.2.2.2.2.2.2.1, b0.2.2.2.2.2.2.2.1, b0.2.2.2.2.2.2.2.2.1, b0.2.2.2.2.2.2.2.2.2.1, b0.2.2.2.2.2.2.2.2.2.2), 0))
    ((cond (n2 == 6) (some (decide (t12 ≥ 0))) (some false)).bind fun t40 =>
    cond t40
      ((cutIx b0.2.2.2.2.1.length 0 t12).bind fun p =>
      (app ([] : List Vrow) ((b0.2.2.2.2.1.take p.2).drop p.1)).bind fun zs47 =>
      (cutIx b0.2.2.2.2.1.length (w64 (t12 + 1)) (b0.2.2.2.2.1.length : Int)).bind fun p_1 =>
      (app zs47 ((b0.2.2.2.2.1.take p_1.2).drop p_1.1)).bind fun zs54 =>
      some ((b0.1, b0.2.1, b0.2.2.1, b0.2.2.2.1, zs54, b0.2.2.2.2.2.1, b0.2.2.2.2.2.2.1, b0.2.2.2.2.2.2.2.1, b0.2.2.2.2.2.2.2.2.1, b0.2.2.2.2.2.2.2.2.2.1, b0.2.2.2.2.2.2.2.2.2.2), 0))
      (some (b0, 2)))
noncomputable def spec_l18Row (b0 : Bridge) (c1 : Int) (id2 : Int) (n3 : Int) : Option (Bridge × Int) :=
  cond (c1 == 1)
    ((spec_l18Status b0 id2 n3).bind fun t16 =>
    some t16)
    ((shl .i64 1 (IntKind.u64.wrap ((b0.2.2.1.length : Int)))).bind fun t24 =>
    (spec_l1In n3 0 (w64 (t24 - 1))).bind fun t26 =>
    cond (!t26)
      (some (b0, 2))
      ((spec_RowAt (b0.2.2.2.2.1, b0.2.2.2.2.2.1) id2).bind fun t35 =>
      (ix b0.2.2.2.2.1.length t35).bind fun j36 =>
      (b0.2.2.2.2.1[j36]?).bind fun x37 =>
      cond (c1 == 2)
        ((spec_l9Row (b0.2.2.2.2.1, b0.2.2.2.2.2.1) (x37.1, n3, x37.2.2)).bind fun t47 =>
        some ((b0.1, b0.2.1, b0.2.2.1, b0.2.2.2.1, t47.1, t47.2, b0.2.2.2.2.2.2.1, b0.2.2.2.2.2.2.2.1, b0.2.2.2.2.2.2.2.2.1, b0.2.2.2.2.2.2.2.2.2.1, b0.2.2.2.2.2.2.2.2.2.2), 0))
        ((spec_l9Row (b0.2.2.2.2.1, b0.2.2.2.2.2.1) (x37.1, x37.2.1, n3)).bind fun t47_1 =>
        some ((b0.1, b0.2.1, b0.2.2.1, b0.2.2.2.1, t47_1.1, t47_1.2, b0.2.2.2.2.2.2.1, b0.2.2.2.2.2.2.2.1, b0.2.2.2.2.2.2.2.2.1, b0.2.2.2.2.2.2.2.2.2.1, b0.2.2.2.2.2.2.2.2.2.2), 0))))
noncomputable def spec_l18One (p0 : Bridge) (i1 : Bind) : Option (Bridge × Int) :=
  (spec_l11Copy p0).bind fun t9 =>
  (spec_l18May p0 i1.1).bind fun t13 =>
  cond (!t13)
    ((spec_l18Seen p0 i1.1).bind fun t18 =>
    cond t18 (some (t9, 4)) (some (t9, 3)))
    ((cut i1.1 3 (i1.1.length : Int)).bind fun t23 =>
    (at? t23 0).bind fun x25 =>
    cond (x25 == 1)
      (cond (i1.2.1 != 4)
        (some (t9, 1))
        (let t34 := decide ((i1.2.2.2.1.length : Int) > 10)
        cond t34
          (some (t9, 2))
          (some ((t9.1, i1.2.2.2.1, t9.2.2.1, t9.2.2.2.1, t9.2.2.2.2.1, t9.2.2.2.2.2.1, t9.2.2.2.2.2.2.1, t9.2.2.2.2.2.2.2.1, t9.2.2.2.2.2.2.2.2.1, t9.2.2.2.2.2.2.2.2.2.1, t9.2.2.2.2.2.2.2.2.2.2), 0))))
      (cond (i1.2.1 != 2)
        (some (t9, 1))
        ((at? t23 0).bind fun x52 =>
        cond (x52 == 2)
          ((at? t23 1).bind fun x57 =>
          (at? t23 2).bind fun x60 =>
          (spec_l18Port t9 x57 (w64 (x60 - 1)) i1.2.2.1).bind fun t66 =>
          some t66)
          ((at? t23 1).bind fun x71 =>
          (at? t23 2).bind fun x74 =>
          (spec_l18Row t9 x71 x74 i1.2.2.1).bind fun t79 =>
          some t79))))
noncomputable def spec_l11One (n0 : Int) : Option Int :=
  cond (decide (n0 ≥ 1000000)) (some n0) (some (w64 (n0 + 1)))
noncomputable def spec_Sends_l0 (id0 : Int) (l1 : List Pt) (n5 : Int) (i6 : Int) : Option ((Int × Int) ⊕ Int) :=
  (cond (decide (i6 < (l1.length : Int))) (some (decide (i6 < 6))) (some false)).bind fun t14 =>
  cond t14
    ((spec_RoleOf id0 l1 i6).bind fun t20 =>
    cond (decide (t20 ≤ 2))
      ((shl .i64 1 (IntKind.u64.wrap (i6))).bind fun t25 =>
      some (.inl (bor .i64 n5 t25, w64 (i6 + 1))))
      (some (.inl (n5, w64 (i6 + 1)))))
    (some (.inr n5))
noncomputable def spec_Sends (id0 : Int) (l1 : List Pt) : Option Int :=
  (loop (fun z => spec_Sends_l0 id0 l1 z.1 z.2) (0, 0)).bind fun d =>
  some d
noncomputable def spec_l9Bit (n0 : Int) (port1 : Int) : Option Bool :=
  (spec_l1In port1 0 7).bind fun t6 =>
  (cond t6
    ((shr .i64 n0 (IntKind.u64.wrap (port1))).bind fun t11 =>
    some ((band .i64 t11 1) == 1))
    (some false)).bind fun t14 =>
  some t14
noncomputable def spec_FlushPort_l0 (l0 : List Fent) (port1 : Int) (i6 : Int) (out5 : List Fent) : Option ((Int × List Fent) ⊕ (List Fent)) :=
  cond (decide (i6 < (l0.length : Int)))
    ((at? l0 i6).bind fun x16 =>
    (cond x16.2.2.2.2
      (some true)
      ((at? l0 i6).bind fun x22 =>
      some (x22.2.2.1 != port1))).bind fun t27 =>
    cond t27
      ((at? l0 i6).bind fun x31 =>
      (app out5 [x31]).bind fun zs34 =>
      some (.inl (w64 (i6 + 1), zs34)))
      (some (.inl (w64 (i6 + 1), out5))))
    (some (.inr out5))
noncomputable def spec_FlushPort (l0 : List Fent) (port1 : Int) : Option (List Fent) :=
  (loop (fun z => spec_FlushPort_l0 l0 port1 z.1 z.2) (0, ([] : List Fent))).bind fun d =>
  some d
noncomputable def spec_l11Turned_l0 (b0 : Bridge) (t13 : Int) (i4 : Int) (b0_1 : Int) (b1 : List UInt8) (b6 : Int) (b7 : Int) (b8 : Int) (b9 : Int) (b10 : Int) (b3 : List Fent) : Option ((Int × Int × List UInt8 × Int × Int × Int × Int × Int × List Fent) ⊕ (Int × List UInt8 × Int × Int × Int × Int × Int × List Fent)) :=
  cond (decide (i4 < (b0.2.2.1.length : Int)))
    ((spec_l9Bit t13 i4).bind fun t23 =>
    cond (!t23)
      ((spec_FlushPort b3 i4).bind fun t28 =>
      some (.inl (w64 (i4 + 1), b0_1, b1, b6, b7, b8, b9, b10, t28)))
      (some (.inl (w64 (i4 + 1), b0_1, b1, b6, b7, b8, b9, b10, b3))))
    (some (.inr (b0_1, b1, b6, b7, b8, b9, b10, b3)))
noncomputable def spec_l11Turned (b0 : Bridge) : Option Bridge :=
  (spec_l11One b0.2.2.2.2.2.2.2.2.2.2).bind fun t7 =>
  (spec_Sends b0.1 b0.2.2.1).bind fun t13 =>
  (loop (fun z => spec_l11Turned_l0 b0 t13 z.1 z.2.1 z.2.2.1 z.2.2.2.1 z.2.2.2.2.1 z.2.2.2.2.2.1 z.2.2.2.2.2.2.1 z.2.2.2.2.2.2.2.1 z.2.2.2.2.2.2.2.2) (0, b0.1, b0.2.1, b0.2.2.2.2.2.2.1, b0.2.2.2.2.2.2.2.1, b0.2.2.2.2.2.2.2.2.1, b0.2.2.2.2.2.2.2.2.2.1, t7, b0.2.2.2.1)).bind fun d =>
  some (d.1, d.2.1, b0.2.2.1, d.2.2.2.2.2.2.2, b0.2.2.2.2.1, b0.2.2.2.2.2.1, d.2.2.1, d.2.2.2.1, d.2.2.2.2.1, d.2.2.2.2.2.1, d.2.2.2.2.2.2.1)
noncomputable def spec_SetAll_l2 (p0 : Bridge) (i1 : List Bind) (t8 : Int) (t9 : Int) (b0_2 : Int) (b1_2 : List UInt8) (b6_2 : Int) (b7_2 : Int) (b8_2 : Int) (b9_2 : Int) (b10_2 : Int) : Option ((Int × Int × List UInt8 × Int × Int × Int × Int × Int) ⊕ ((Int × List UInt8 × Int × Int × Int × Int × Int) ⊕ (Int × Int × Int × List UInt8 × Int × Int × Int × Int × Int × List Pt × List Fent × List Vrow × List Int))) :=
  cond (decide (t9 < t8))
    ((at? i1 t9).bind fun x36 =>
    (at? i1 t8).bind fun x41 =>
    (spec_SameOid x36.1 x41.1).bind fun t44 =>
    cond t44
      ((spec_l11Copy p0).bind fun t46 =>
      some (.inr (.inr (5, w64 (t8 + 1), t46.1, t46.2.1, t46.2.2.2.2.2.2.1, t46.2.2.2.2.2.2.2.1, t46.2.2.2.2.2.2.2.2.1, t46.2.2.2.2.2.2.2.2.2.1, t46.2.2.2.2.2.2.2.2.2.2, t46.2.2.1, t46.2.2.2.1, t46.2.2.2.2.1, t46.2.2.2.2.2.1))))
      (some (.inl (w64 (t9 + 1), b0_2, b1_2, b6_2, b7_2, b8_2, b9_2, b10_2))))
    (some (.inr (.inl (b0_2, b1_2, b6_2, b7_2, b8_2, b9_2, b10_2))))
noncomputable def spec_SetAll_l0 (p0 : Bridge) (i1 : List Bind) (t8 : Int) (b0 : Int) (b1 : List UInt8) (b6 : Int) (b7 : Int) (b8 : Int) (b9 : Int) (b10 : Int) (b0_1 : Int) (b1_1 : List UInt8) (b6_1 : Int) (b7_1 : Int) (b8_1 : Int) (b9_1 : Int) (b10_1 : Int) (b2 : List Pt) (b3 : List Fent) (b4 : List Vrow) (b5 : List Int) (b2_1 : List Pt) (b3_1 : List Fent) (b4_1 : List Vrow) (b5_1 : List Int) : Option ((Int × Int × List UInt8 × Int × Int × Int × Int × Int × Int × List UInt8 × Int × Int × Int × Int × Int × List Pt × List Fent × List Vrow × List Int × List Pt × List Fent × List Vrow × List Int) ⊕ ((Int × List UInt8 × Int × Int × Int × Int × Int × Int × List UInt8 × Int × Int × Int × Int × Int × List Pt × List Fent × List Vrow × List Int × List Pt × List Fent × List Vrow × List Int) ⊕ (Int × Int × Int × List UInt8 × Int × Int × Int × Int × Int × List Pt × List Fent × List Vrow × List Int))) :=
  cond (decide (t8 < (i1.length : Int)))
    ((loop (fun z => spec_SetAll_l2 p0 i1 t8 z.1 z.2.1 z.2.2.1 z.2.2.2.1 z.2.2.2.2.1 z.2.2.2.2.2.1 z.2.2.2.2.2.2.1 z.2.2.2.2.2.2.2) (0, b0, b1, b6, b7, b8, b9, b10)).bind (Sum.elim (fun d =>
      (at? i1 t8).bind fun x53 =>
      (spec_l18One (b0_1, b1_1, b2_1, b3_1, b4_1, b5_1, b6_1, b7_1, b8_1, b9_1, b10_1) x53).bind fun t55 =>
      cond (t55.2 != 0)
        ((spec_l11Copy p0).bind fun t61 =>
        some (.inr (.inr (t55.2, w64 (t8 + 1), t61.1, t61.2.1, t61.2.2.2.2.2.2.1, t61.2.2.2.2.2.2.2.1, t61.2.2.2.2.2.2.2.2.1, t61.2.2.2.2.2.2.2.2.2.1, t61.2.2.2.2.2.2.2.2.2.2, t61.2.2.1, t61.2.2.2.1, t61.2.2.2.2.1, t61.2.2.2.2.2.1))))
        (some (.inl (w64 (t8 + 1), d.1, d.2.1, d.2.2.1, d.2.2.2.1, d.2.2.2.2.1, d.2.2.2.2.2.1, d.2.2.2.2.2.2, t55.1.1, t55.1.2.1, t55.1.2.2.2.2.2.2.1, t55.1.2.2.2.2.2.2.2.1, t55.1.2.2.2.2.2.2.2.2.1, t55.1.2.2.2.2.2.2.2.2.2.1, t55.1.2.2.2.2.2.2.2.2.2.2, b2, b3, b4, b5, t55.1.2.2.1, t55.1.2.2.2.1, t55.1.2.2.2.2.1, t55.1.2.2.2.2.2.1)))) (fun r => some (.inr (.inr r)))))
    (some (.inr (.inl (b0, b1, b6, b7, b8, b9, b10, b0_1, b1_1, b6_1, b7_1, b8_1, b9_1, b10_1, b2, b3, b4, b5, b2_1, b3_1, b4_1, b5_1))))
noncomputable def spec_SetAll (p0 : Bridge) (i1 : List Bind) : Option (Bridge × Int × Int) :=
  (spec_l11Copy p0).bind fun t13 =>
  (spec_BridgeOk p0).bind fun t15 =>
  (cond (!t15) (some (decide ((i1.length : Int) > 0))) (some false)).bind fun t21 =>
  cond t21
    (some (t13, 3, 1))
    ((loop (fun z => spec_SetAll_l0 p0 i1 z.1 z.2.1 z.2.2.1 z.2.2.2.1 z.2.2.2.2.1 z.2.2.2.2.2.1 z.2.2.2.2.2.2.1 z.2.2.2.2.2.2.2.1 z.2.2.2.2.2.2.2.2.1 z.2.2.2.2.2.2.2.2.2.1 z.2.2.2.2.2.2.2.2.2.2.1 z.2.2.2.2.2.2.2.2.2.2.2.1 z.2.2.2.2.2.2.2.2.2.2.2.2.1 z.2.2.2.2.2.2.2.2.2.2.2.2.2.1 z.2.2.2.2.2.2.2.2.2.2.2.2.2.2.1 z.2.2.2.2.2.2.2.2.2.2.2.2.2.2.2.1 z.2.2.2.2.2.2.2.2.2.2.2.2.2.2.2.2.1 z.2.2.2.2.2.2.2.2.2.2.2.2.2.2.2.2.2.1 z.2.2.2.2.2.2.2.2.2.2.2.2.2.2.2.2.2.2.1 z.2.2.2.2.2.2.2.2.2.2.2.2.2.2.2.2.2.2.2.1 z.2.2.2.2.2.2.2.2.2.2.2.2.2.2.2.2.2.2.2.2.1 z.2.2.2.2.2.2.2.2.2.2.2.2.2.2.2.2.2.2.2.2.2.1 z.2.2.2.2.2.2.2.2.2.2.2.2.2.2.2.2.2.2.2.2.2.2) (0, 0, [], 0, 0, 0, 0, 0, t13.1, t13.2.1, t13.2.2.2.2.2.2.1, t13.2.2.2.2.2.2.2.1, t13.2.2.2.2.2.2.2.2.1, t13.2.2.2.2.2.2.2.2.2.1, t13.2.2.2.2.2.2.2.2.2.2, [], [], [], [], t13.2.2.1, t13.2.2.2.1, t13.2.2.2.2.1, t13.2.2.2.2.2.1)).bind (Sum.elim (fun d_1 =>
      cond ((i1.length : Int) == 0)
        (some ((d_1.2.2.2.2.2.2.2.1, d_1.2.2.2.2.2.2.2.2.1, d_1.2.2.2.2.2.2.2.2.2.2.2.2.2.2.2.2.2.2.1, d_1.2.2.2.2.2.2.2.2.2.2.2.2.2.2.2.2.2.2.2.1, d_1.2.2.2.2.2.2.2.2.2.2.2.2.2.2.2.2.2.2.2.2.1, d_1.2.2.2.2.2.2.2.2.2.2.2.2.2.2.2.2.2.2.2.2.2, d_1.2.2.2.2.2.2.2.2.2.1, d_1.2.2.2.2.2.2.2.2.2.2.1, d_1.2.2.2.2.2.2.2.2.2.2.2.1, d_1.2.2.2.2.2.2.2.2.2.2.2.2.1, d_1.2.2.2.2.2.2.2.2.2.2.2.2.2.1), 0, 0))
        ((spec_VtabOk d_1.2.2.2.2.2.2.2.2.2.2.2.2.2.2.2.2.2.2.2.2 (d_1.2.2.2.2.2.2.2.2.2.2.2.2.2.2.2.2.2.2.1.length : Int)).bind fun t75 =>
        cond (!t75)
          ((spec_l11Copy p0).bind fun t78 =>
          some (t78, 5, (i1.length : Int)))
          ((spec_l11Turned (d_1.2.2.2.2.2.2.2.1, d_1.2.2.2.2.2.2.2.2.1, d_1.2.2.2.2.2.2.2.2.2.2.2.2.2.2.2.2.2.2.1, d_1.2.2.2.2.2.2.2.2.2.2.2.2.2.2.2.2.2.2.2.1, d_1.2.2.2.2.2.2.2.2.2.2.2.2.2.2.2.2.2.2.2.2.1, d_1.2.2.2.2.2.2.2.2.2.2.2.2.2.2.2.2.2.2.2.2.2, d_1.2.2.2.2.2.2.2.2.2.1, d_1.2.2.2.2.2.2.2.2.2.2.1, d_1.2.2.2.2.2.2.2.2.2.2.2.1, d_1.2.2.2.2.2.2.2.2.2.2.2.2.1, d_1.2.2.2.2.2.2.2.2.2.2.2.2.2.1)).bind fun t82 =>
          some (t82, 0, 0)))) (fun r_1 => some ((r_1.2.2.1, r_1.2.2.2.1, r_1.2.2.2.2.2.2.2.2.2.1, r_1.2.2.2.2.2.2.2.2.2.2.1, r_1.2.2.2.2.2.2.2.2.2.2.2.1, r_1.2.2.2.2.2.2.2.2.2.2.2.2, r_1.2.2.2.2.1, r_1.2.2.2.2.2.1, r_1.2.2.2.2.2.2.1, r_1.2.2.2.2.2.2.2.1, r_1.2.2.2.2.2.2.2.2.1), r_1.1, r_1.2.1))))
end Go.V.W

