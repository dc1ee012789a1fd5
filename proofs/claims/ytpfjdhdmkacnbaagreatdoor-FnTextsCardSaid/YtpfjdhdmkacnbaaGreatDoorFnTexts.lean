/- The law FnTexts: part of the proof that for every input it returns true. No condition. -/
import Derived.Test.YtpfjdhdmkacnbaaGreatDoorLayGD
import Derived.Test.YtpfjdhdmkacnbaaGreatDoorProg
import Derived.Test.YtpfjdhdmkacnbaaGreatDoorChecked
import Derived.KernelRfl
namespace Go.V.W
open Go.Proofs
set_option linter.unusedVariables false
@[reducible] def cL1Cur : Cs := .cons (.sl (.one (.int .u8))) (.cons (.int .i64) (.one (.int .i64)))
@[reducible] def cVal : Cs := .cons (.int .i64) (.cons (.int .i64) (.cons .str (.one (.sl (.one (.int .i64))))))
@[reducible] def cBind : Cs := .cons (.sl (.one (.int .i64))) (.cons (.int .i64) (.cons (.int .i64) (.cons .str (.one (.sl (.one (.int .i64)))))))
@[reducible] def cPdu : Cs := .cons (.int .i64) (.cons (.int .i64) (.cons (.int .i64) (.cons (.int .i64) (.one (.sl cBind)))))
@[reducible] def cVrow : Cs := .cons (.int .i64) (.cons (.int .i64) (.one (.int .i64)))
@[reducible] def cVtab : Cs := .cons (.sl cVrow) (.one (.sl (.one (.int .i64))))
@[reducible] def cVec : Cs := .cons (.int .i64) (.cons (.int .i64) (.cons (.int .i64) (.cons (.int .i64) (.one (.int .i64)))))
@[reducible] def cPt : Cs := .cons .bool (.cons (.int .i64) (.cons .bool (.cons (.int .i64) (.cons (.int .i64) (.cons (.int .i64) (.cons (.int .i64) (.one (.int .i64))))))))
@[reducible] def cFent : Cs := .cons (.int .i64) (.cons (.int .i64) (.cons (.int .i64) (.cons (.int .i64) (.one .bool))))
@[reducible] def cBridge : Cs := .cons (.int .i64) (.cons .str (.cons (.sl cPt) (.cons (.sl cFent) (.cons (.sl cVrow) (.cons (.sl (.one (.int .i64))) (.cons (.int .i64) (.cons (.int .i64) (.cons (.int .i64) (.cons (.int .i64) (.one (.int .i64)))))))))))
abbrev L1Cur : Type := List Int × Int × Int
abbrev Val : Type := Int × Int × List UInt8 × List Int
abbrev Bind : Type := List Int × Int × Int × List UInt8 × List Int
abbrev Pdu : Type := Int × Int × Int × Int × List Bind
abbrev Vrow : Type := Int × Int × Int
abbrev Vtab : Type := List Vrow × List Int
abbrev Vec : Type := Int × Int × Int × Int × Int
abbrev Pt : Type := Bool × Int × Bool × Int × Int × Int × Int × Int
abbrev Fent : Type := Int × Int × Int × Int × Bool
abbrev Bridge : Type := Int × List UInt8 × List Pt × List Fent × List Vrow × List Int × Int × Int × Int × Int × Int
def tis : List (Nat × TInfo) := [(2, ⟨false, .one (.int .i64), [], 0⟩),
  (3, ⟨false, .one (.int .i64), [], 0⟩),
  (4, ⟨false, .one .bool, [], 0⟩),
  (5, ⟨false, .one (.int .u8), [], 0⟩),
  (6, ⟨false, .one (.int .u8), [], 0⟩),
  (9, ⟨false, .one .str, [], 0⟩),
  (10, ⟨false, .one .str, [], 0⟩),
  (11, ⟨false, .one .str, [], 0⟩),
  (12, ⟨false, .one (.int .u64), [], 0⟩),
  (21, ⟨false, .one (.int .i32), [], 0⟩),
  (22, ⟨false, .one (.sl (.one (.int .u8))), [], 5⟩),
  (24, ⟨false, .one (.sl cBind), [], 43⟩),
  (25, ⟨true, cPdu, [(3, 0), (3, 1), (3, 2), (3, 3), (24, 4)], 0⟩),
  (26, ⟨true, cPdu, [(3, 0), (3, 1), (3, 2), (3, 3), (24, 4)], 0⟩),
  (29, ⟨false, .one (.sl cPt), [], 76⟩),
  (30, ⟨false, .one (.sl cFent), [], 102⟩),
  (31, ⟨false, .one (.sl cVrow), [], 104⟩),
  (32, ⟨false, .one (.sl (.one (.int .i64))), [], 3⟩),
  (33, ⟨true, cVtab, [(31, 0), (32, 1)], 0⟩),
  (34, ⟨true, cVtab, [(31, 0), (32, 1)], 0⟩),
  (35, ⟨true, cBridge, [(3, 0), (9, 1), (29, 2), (30, 3), (34, 4), (3, 6), (3, 7), (3, 8), (3, 9), (3, 10)], 0⟩),
  (36, ⟨true, cBridge, [(3, 0), (9, 1), (29, 2), (30, 3), (34, 4), (3, 6), (3, 7), (3, 8), (3, 9), (3, 10)], 0⟩),
  (39, ⟨true, cVal, [(3, 0), (3, 1), (9, 2), (32, 3)], 0⟩),
  (40, ⟨true, cVal, [(3, 0), (3, 1), (9, 2), (32, 3)], 0⟩),
  (42, ⟨true, cBind, [(32, 0), (40, 1)], 0⟩),
  (43, ⟨true, cBind, [(32, 0), (40, 1)], 0⟩),
  (53, ⟨false, .one (.sl (.one .str)), [], 9⟩),
  (64, ⟨true, cL1Cur, [(22, 0), (3, 1), (3, 2)], 0⟩),
  (65, ⟨true, cL1Cur, [(22, 0), (3, 1), (3, 2)], 0⟩),
  (73, ⟨true, cVec, [(3, 0), (3, 1), (3, 2), (3, 3), (3, 4)], 0⟩),
  (74, ⟨true, cVec, [(3, 0), (3, 1), (3, 2), (3, 3), (3, 4)], 0⟩),
  (75, ⟨true, cPt, [(4, 0), (3, 1), (4, 2), (74, 3)], 0⟩),
  (76, ⟨true, cPt, [(4, 0), (3, 1), (4, 2), (74, 3)], 0⟩),
  (86, ⟨false, .one .err, [], 0⟩),
  (101, ⟨true, cFent, [(3, 0), (3, 1), (3, 2), (3, 3), (4, 4)], 0⟩),
  (102, ⟨true, cFent, [(3, 0), (3, 1), (3, 2), (3, 3), (4, 4)], 0⟩),
  (103, ⟨true, cVrow, [(3, 0), (3, 1), (3, 2)], 0⟩),
  (104, ⟨true, cVrow, [(3, 0), (3, 1), (3, 2)], 0⟩),
  (111, ⟨false, .one (.int .u64), [], 0⟩),
  (113, ⟨false, .one (.int .u64), [], 0⟩),
  (135, ⟨false, .one (.int .u32), [], 0⟩),
  (152, ⟨false, .one (.int .u8), [], 0⟩),
  (153, ⟨false, .one (.int .u8), [], 0⟩),
  (155, ⟨false, .one (.int .i32), [], 0⟩),
  (156, ⟨false, .one (.int .i32), [], 0⟩)]
theorem tisT : Tis Tryz.prog tis := Tis.of_all (by kernel_rfl)
theorem tisE : Eqs Tryz.prog tis := Eqs.of_all (by kernel_rfl)
theorem tisD : Deep Tryz.prog tis := Deep.of_all (by kernel_rfl)
theorem mixed : Tryz.prog.follows .mixedOrders = true := by kernel_rfl
def codeOf (fn : Func) : Code := match fn.body with | some c => c | none => .skip
theorem g_0 : Good Tryz.prog ⟨tis, [], [], false⟩ := ⟨tisT, tisE, (fun f F h => by cases h), (fun f M h => by cases h), (fun h => by cases h)⟩
noncomputable def F_libItoa : Fn := libItoaF
theorem m_libItoa : Meets Tryz.prog 21 F_libItoa := meets_itoa ⟨Tryz.f21, codeOf Tryz.f21, Tryz.func21, by kernel_rfl, by kernel_rfl⟩ lay_Itoa
noncomputable def fns_21 : List (FuncId × Fn) := (21, F_libItoa) :: []
theorem g_21 : Good Tryz.prog ⟨tis, fns_21, [], false⟩ := g_0.cons m_libItoa
noncomputable def F_libJoin : Fn := libJoinF
theorem m_libJoin : Meets Tryz.prog 24 F_libJoin := meets_join ⟨Tryz.f24, codeOf Tryz.f24, Tryz.func24, by kernel_rfl, by kernel_rfl⟩ lay_Join0 lay_Join
noncomputable def fns_24 : List (FuncId × Fn) := (24, F_libJoin) :: fns_21
theorem g_24 : Good Tryz.prog ⟨tis, fns_24, [], false⟩ := g_21.cons m_libJoin
noncomputable def laws_big (code0 : List Int) : Option Bool :=
  let t2 := decide ((code0.length : Int) > 1048576)
  some t2
noncomputable def F_laws_big : Fn := ⟨[.val false (.one (.sl (.one (.int .u8)))) false], [.val false (.one .bool) (some true)], fun a => laws_big a⟩
def a_laws_big : List (Nat × LoopAnn) := []
theorem e_laws_big : fnDen ⟨tis, fns_24, [], false⟩ a_laws_big Tryz.f4 (codeOf Tryz.f4) [.val false (.one (.sl (.one (.int .u8)))) false] [.val false (.one .bool) (some true)] = fun a => laws_big a := by kernel_rfl
theorem m_laws_big : Meets Tryz.prog 4 F_laws_big := by
  have h := meets_of (ann := a_laws_big) (ps := [.val false (.one (.sl (.one (.int .u8)))) false]) (rs := [.val false (.one .bool) (some true)]) g_24 mixed Tryz.func4 (by kernel_rfl) (by kernel_rfl : Tryz.f4.body = some (codeOf Tryz.f4))
  rw [e_laws_big] at h
  exact h
noncomputable def fns_4 : List (FuncId × Fn) := (4, F_laws_big) :: fns_24
theorem g_4 : Good Tryz.prog ⟨tis, fns_4, [], false⟩ := g_24.cons m_laws_big
noncomputable def spec_l1New_l0 (code0 : List Int) (h3_1 : Int) (i4 : Int) : Option ((Int × Int) ⊕ Int) :=
  (cond (decide (i4 < (code0.length : Int))) (some (decide (i4 < 4000))) (some false)).bind fun t15 =>
  cond t15
    ((at? code0 i4).bind fun x22 =>
    let h3_2 := band .i64 (w64 ((w64 ((w64 (h3_1 * 137)) + (w64 (x22)))) + 11)) 1073741823
    some (.inl (h3_2, w64 (i4 + 1))))
    (some (.inr h3_1))
noncomputable def spec_l1New (code0 : List Int) : Option L1Cur :=
  let h3 := w64 (762762 + (code0.length : Int))
  (loop (fun z => spec_l1New_l0 code0 z.1 z.2) (h3, 0)).bind fun d =>
  some (code0, 0, d)
noncomputable def F_spec_l1New : Fn := ⟨[.val false (.one (.sl (.one (.int .u8)))) false], [.ptr cL1Cur none], fun a => spec_l1New a⟩
def a_spec_l1New : List (Nat × LoopAnn) := [(0, ⟨⟨[(3, false, [.dat (.int .i64)]), (4, false, [.dat (.int .i64)]), (13, false, [.undef]), (14, false, [.undef])], []⟩,
    ⟨[(3, false, [.dat (.int .i64)])], []⟩, none⟩)]
theorem e_spec_l1New : fnDen ⟨tis, fns_4, [], false⟩ a_spec_l1New Tryz.f18 (codeOf Tryz.f18) [.val false (.one (.sl (.one (.int .u8)))) false] [.ptr cL1Cur none] = fun a => spec_l1New a := by kernel_rfl
theorem m_spec_l1New : Meets Tryz.prog 18 F_spec_l1New := by
  have h := meets_of (ann := a_spec_l1New) (ps := [.val false (.one (.sl (.one (.int .u8)))) false]) (rs := [.ptr cL1Cur none]) g_4 mixed Tryz.func18 (by kernel_rfl) (by kernel_rfl : Tryz.f18.body = some (codeOf Tryz.f18))
  rw [e_spec_l1New] at h
  exact h
noncomputable def fns_18 : List (FuncId × Fn) := (18, F_spec_l1New) :: fns_4
theorem g_18 : Good Tryz.prog ⟨tis, fns_18, [], false⟩ := g_4.cons m_spec_l1New
noncomputable def spec_l1Byte (c0 : L1Cur) : Option (L1Cur × Int) :=
  let x3 := band .i64 (bxor .i64 ((w64 ((w64 (c0.2.2 * 6364136223846793005)) + 1442695040888963407)).fdiv (2 ^ 33)) ((w64 ((w64 (c0.2.2 * 6364136223846793005)) + 1442695040888963407)).fdiv (2 ^ 47))) 255
  cond (decide (c0.2.1 < (c0.1.length : Int)))
    ((at? c0.1 c0.2.1).bind fun x44 =>
    let x3_1 := band .i64 (w64 (x3 + (w64 (x44)))) 255
    some ((c0.1, w64 (c0.2.1 + 1), w64 ((w64 (c0.2.2 * 6364136223846793005)) + 1442695040888963407)), x3_1))
    (some ((c0.1, c0.2.1, w64 ((w64 (c0.2.2 * 6364136223846793005)) + 1442695040888963407)), x3))
noncomputable def F_spec_l1Byte : Fn := ⟨[.ptr cL1Cur none], [.val false (.one (.int .i64)) (some true)], fun a => spec_l1Byte a⟩
def a_spec_l1Byte : List (Nat × LoopAnn) := []
theorem e_spec_l1Byte : fnDen ⟨tis, fns_18, [], false⟩ a_spec_l1Byte Tryz.f63 (codeOf Tryz.f63) [.ptr cL1Cur none] [.val false (.one (.int .i64)) (some true)] = fun a => spec_l1Byte a := by kernel_rfl
theorem m_spec_l1Byte : Meets Tryz.prog 63 F_spec_l1Byte := by
  have h := meets_of (ann := a_spec_l1Byte) (ps := [.ptr cL1Cur none]) (rs := [.val false (.one (.int .i64)) (some true)]) g_18 mixed Tryz.func63 (by kernel_rfl) (by kernel_rfl : Tryz.f63.body = some (codeOf Tryz.f63))
  rw [e_spec_l1Byte] at h
  exact h
noncomputable def fns_63 : List (FuncId × Fn) := (63, F_spec_l1Byte) :: fns_18
theorem g_63 : Good Tryz.prog ⟨tis, fns_63, [], false⟩ := g_18.cons m_spec_l1Byte
noncomputable def spec_l1Below (c0 : L1Cur) (n1 : Int) : Option (L1Cur × Int) :=
  cond (decide (n1 ≤ 0))
    (some (c0, 0))
    (cond (decide (n1 ≤ 256))
      ((spec_l1Byte c0).bind fun t13 =>
      (rem t13.2 n1).bind fun t15 =>
      some (t13.1, t15))
      ((spec_l1Byte c0).bind fun t17 =>
      (spec_l1Byte t17.1).bind fun t19 =>
      (spec_l1Byte t19.1).bind fun t21 =>
      (rem (w64 ((w64 ((w64 (t17.2 * 65536)) + (w64 (t19.2 * 256)))) + t21.2)) n1).bind fun t30 =>
      some (t21.1, t30)))
noncomputable def F_spec_l1Below : Fn := ⟨[.ptr cL1Cur none, .val false (.one (.int .i64)) false], [.val false (.one (.int .i64)) (some true)], fun a => spec_l1Below a.1 a.2⟩
def a_spec_l1Below : List (Nat × LoopAnn) := []
theorem e_spec_l1Below : fnDen ⟨tis, fns_63, [], false⟩ a_spec_l1Below Tryz.f39 (codeOf Tryz.f39) [.ptr cL1Cur none, .val false (.one (.int .i64)) false] [.val false (.one (.int .i64)) (some true)] = fun a => spec_l1Below a.1 a.2 := by kernel_rfl
theorem m_spec_l1Below : Meets Tryz.prog 39 F_spec_l1Below := by
  have h := meets_of (ann := a_spec_l1Below) (ps := [.ptr cL1Cur none, .val false (.one (.int .i64)) false]) (rs := [.val false (.one (.int .i64)) (some true)]) g_63 mixed Tryz.func39 (by kernel_rfl) (by kernel_rfl : Tryz.f39.body = some (codeOf Tryz.f39))
  rw [e_spec_l1Below] at h
  exact h
noncomputable def fns_39 : List (FuncId × Fn) := (39, F_spec_l1Below) :: fns_63
theorem g_39 : Good Tryz.prog ⟨tis, fns_39, [], false⟩ := g_63.cons m_spec_l1Below
noncomputable def spec_l1Int (c0 : L1Cur) (list1 : List Int) : Option (L1Cur × Int) :=
  (spec_l1Below c0 (list1.length : Int)).bind fun t9 =>
  (at? list1 t9.2).bind fun x10 =>
  some (t9.1, x10)
noncomputable def F_spec_l1Int : Fn := ⟨[.ptr cL1Cur none, .val false (.one (.sl (.one (.int .i64)))) false], [.val false (.one (.int .i64)) (some true)], fun a => spec_l1Int a.1 a.2⟩
def a_spec_l1Int : List (Nat × LoopAnn) := []
theorem e_spec_l1Int : fnDen ⟨tis, fns_39, [], false⟩ a_spec_l1Int Tryz.f40 (codeOf Tryz.f40) [.ptr cL1Cur none, .val false (.one (.sl (.one (.int .i64)))) false] [.val false (.one (.int .i64)) (some true)] = fun a => spec_l1Int a.1 a.2 := by kernel_rfl
theorem m_spec_l1Int : Meets Tryz.prog 40 F_spec_l1Int := by
  have h := meets_of (ann := a_spec_l1Int) (ps := [.ptr cL1Cur none, .val false (.one (.sl (.one (.int .i64)))) false]) (rs := [.val false (.one (.int .i64)) (some true)]) g_39 mixed Tryz.func40 (by kernel_rfl) (by kernel_rfl : Tryz.f40.body = some (codeOf Tryz.f40))
  rw [e_spec_l1Int] at h
  exact h
noncomputable def fns_40 : List (FuncId × Fn) := (40, F_spec_l1Int) :: fns_39
theorem g_40 : Good Tryz.prog ⟨tis, fns_40, [], false⟩ := g_39.cons m_spec_l1Int
noncomputable def spec_l2Draw_l0 (i4 : Int) (b0 : List Int) (b1 : Int) (b2 : Int) (out3 : List Int) : Option ((Int × List Int × Int × Int × List Int) ⊕ (List Int × Int × Int × List Int)) :=
  cond (decide (i4 > 0))
    ((spec_l1Int (b0, b1, b2) ([0, 1, 2, 3, 127, 128, 16384, 100000] : List Int)).bind fun t16 =>
    (app out3 [t16.2]).bind fun zs18 =>
    some (.inl (w64 (i4 - 1), t16.1.1, t16.1.2.1, t16.1.2.2, zs18)))
    (some (.inr (b0, b1, b2, out3)))
noncomputable def spec_l2Draw (c0 : L1Cur) : Option (L1Cur × List Int) :=
  (spec_l1Below c0 6).bind fun t7 =>
  (loop (fun z => spec_l2Draw_l0 z.1 z.2.1 z.2.2.1 z.2.2.2.1 z.2.2.2.2) (w64 (1 + t7.2), t7.1.1, t7.1.2.1, t7.1.2.2, ([] : List Int))).bind fun d =>
  some ((d.1, d.2.1, d.2.2.1), d.2.2.2)
noncomputable def F_spec_l2Draw : Fn := ⟨[.ptr cL1Cur none], [.val false (.one (.sl (.one (.int .i64)))) (some true)], fun a => spec_l2Draw a⟩
def a_spec_l2Draw : List (Nat × LoopAnn) := [(0, ⟨⟨[(3, false, [.own 1000000000]), (4, false, [.dat (.int .i64)])], [(1, .box [.dat (.sl (.one (.int .u8))), .dat (.int .i64), .dat (.int .i64)]), (1000000000, .root (.one (.int .i64)) true)]⟩,
    ⟨[(3, false, [.own 1000000300])], [(1, .box [.dat (.sl (.one (.int .u8))), .dat (.int .i64), .dat (.int .i64)]), (1000000300, .root (.one (.int .i64)) true)]⟩, none⟩)]
theorem e_spec_l2Draw : fnDen ⟨tis, fns_40, [], false⟩ a_spec_l2Draw Tryz.f41 (codeOf Tryz.f41) [.ptr cL1Cur none] [.val false (.one (.sl (.one (.int .i64)))) (some true)] = fun a => spec_l2Draw a := by kernel_rfl
theorem m_spec_l2Draw : Meets Tryz.prog 41 F_spec_l2Draw := by
  have h := meets_of (ann := a_spec_l2Draw) (ps := [.ptr cL1Cur none]) (rs := [.val false (.one (.sl (.one (.int .i64)))) (some true)]) g_40 mixed Tryz.func41 (by kernel_rfl) (by kernel_rfl : Tryz.f41.body = some (codeOf Tryz.f41))
  rw [e_spec_l2Draw] at h
  exact h
noncomputable def fns_41 : List (FuncId × Fn) := (41, F_spec_l2Draw) :: fns_40
theorem g_41 : Good Tryz.prog ⟨tis, fns_41, [], false⟩ := g_40.cons m_spec_l2Draw
noncomputable def spec_l2Any_l1 (b0 : List Int) (b1 : Int) (b2 : Int) (o3 : List Int) : Option ((List Int × Int × Int × List Int) ⊕ (List Int × Int × Int × List Int)) :=
  (spec_l1Below (b0, b1, b2) 2).bind fun t23 =>
  cond (decide ((o3.length : Int) < (w64 (10 + t23.2))))
    ((app o3 ([1] : List Int)).bind fun zs28 =>
    some (.inl (t23.1.1, t23.1.2.1, t23.1.2.2, zs28)))
    (some (.inr (t23.1.1, t23.1.2.1, t23.1.2.2, o3)))
noncomputable def spec_l2Any (c0 : L1Cur) : Option (L1Cur × List Int) :=
  (spec_l2Draw c0).bind fun t5 =>
  (spec_l1Below t5.1 10).bind fun t7 =>
  cond (t7.2 == 0)
    (some (t7.1, ([] : List Int)))
    (cond (t7.2 == 1)
      ((spec_l1Int t7.1 ([(-1), 100001] : List Int)).bind fun t16 =>
      (ix t5.2.length 0).bind fun j17 =>
      (t5.2[j17]?).bind fun x =>
      some (t16.1, t5.2.set j17 t16.2))
      (cond (t7.2 == 2)
        ((loop (fun z => spec_l2Any_l1 z.1 z.2.1 z.2.2.1 z.2.2.2) (t7.1.1, t7.1.2.1, t7.1.2.2, t5.2)).bind fun d =>
        some ((d.1, d.2.1, d.2.2.1), d.2.2.2))
        (some (t7.1, t5.2))))
noncomputable def F_spec_l2Any : Fn := ⟨[.ptr cL1Cur none], [.val false (.one (.sl (.one (.int .i64)))) (some true)], fun a => spec_l2Any a⟩
def a_spec_l2Any : List (Nat × LoopAnn) := [(1, ⟨⟨[(3, false, [.own 1000001000])], [(1, .box [.dat (.sl (.one (.int .u8))), .dat (.int .i64), .dat (.int .i64)]), (1000001000, .root (.one (.int .i64)) true)]⟩,
    ⟨[(3, false, [.own 1000001300])], [(1, .box [.dat (.sl (.one (.int .u8))), .dat (.int .i64), .dat (.int .i64)]), (1000001300, .root (.one (.int .i64)) true)]⟩, none⟩)]
theorem e_spec_l2Any : fnDen ⟨tis, fns_41, [], false⟩ a_spec_l2Any Tryz.f26 (codeOf Tryz.f26) [.ptr cL1Cur none] [.val false (.one (.sl (.one (.int .i64)))) (some true)] = fun a => spec_l2Any a := by kernel_rfl
theorem m_spec_l2Any : Meets Tryz.prog 26 F_spec_l2Any := by
  have h := meets_of (ann := a_spec_l2Any) (ps := [.ptr cL1Cur none]) (rs := [.val false (.one (.sl (.one (.int .i64)))) (some true)]) g_41 mixed Tryz.func26 (by kernel_rfl) (by kernel_rfl : Tryz.f26.body = some (codeOf Tryz.f26))
  rw [e_spec_l2Any] at h
  exact h
noncomputable def fns_26 : List (FuncId × Fn) := (26, F_spec_l2Any) :: fns_41
theorem g_26 : Good Tryz.prog ⟨tis, fns_26, [], false⟩ := g_41.cons m_spec_l2Any
noncomputable def spec_l1Clip (n0 : Int) : Option Int :=
  cond (decide (n0 > 2147483647))
    (some 2147483647)
    (cond (decide (n0 < (-2147483648))) (some (-2147483648)) (some n0))
noncomputable def F_spec_l1Clip : Fn := ⟨[.val false (.one (.int .i64)) false], [.val false (.one (.int .i64)) (some true)], fun a => spec_l1Clip a⟩
def a_spec_l1Clip : List (Nat × LoopAnn) := []
theorem e_spec_l1Clip : fnDen ⟨tis, fns_26, [], false⟩ a_spec_l1Clip Tryz.f31 (codeOf Tryz.f31) [.val false (.one (.int .i64)) false] [.val false (.one (.int .i64)) (some true)] = fun a => spec_l1Clip a := by kernel_rfl
theorem m_spec_l1Clip : Meets Tryz.prog 31 F_spec_l1Clip := by
  have h := meets_of (ann := a_spec_l1Clip) (ps := [.val false (.one (.int .i64)) false]) (rs := [.val false (.one (.int .i64)) (some true)]) g_26 mixed Tryz.func31 (by kernel_rfl) (by kernel_rfl : Tryz.f31.body = some (codeOf Tryz.f31))
  rw [e_spec_l1Clip] at h
  exact h
noncomputable def fns_31 : List (FuncId × Fn) := (31, F_spec_l1Clip) :: fns_26
theorem g_31 : Good Tryz.prog ⟨tis, fns_31, [], false⟩ := g_26.cons m_spec_l1Clip
noncomputable def spec_l1Str (c0 : L1Cur) (list1 : List (List UInt8)) : Option (L1Cur × List UInt8) :=
  (spec_l1Below c0 (list1.length : Int)).bind fun t9 =>
  (at? list1 t9.2).bind fun x10 =>
  some (t9.1, x10)
noncomputable def F_spec_l1Str : Fn := ⟨[.ptr cL1Cur none, .val false (.one (.sl (.one .str))) false], [.val false (.one .str) (some true)], fun a => spec_l1Str a.1 a.2⟩
def a_spec_l1Str : List (Nat × LoopAnn) := []
theorem e_spec_l1Str : fnDen ⟨tis, fns_31, [], false⟩ a_spec_l1Str Tryz.f47 (codeOf Tryz.f47) [.ptr cL1Cur none, .val false (.one (.sl (.one .str))) false] [.val false (.one .str) (some true)] = fun a => spec_l1Str a.1 a.2 := by kernel_rfl
theorem m_spec_l1Str : Meets Tryz.prog 47 F_spec_l1Str := by
  have h := meets_of (ann := a_spec_l1Str) (ps := [.ptr cL1Cur none, .val false (.one (.sl (.one .str))) false]) (rs := [.val false (.one .str) (some true)]) g_31 mixed Tryz.func47 (by kernel_rfl) (by kernel_rfl : Tryz.f47.body = some (codeOf Tryz.f47))
  rw [e_spec_l1Str] at h
  exact h
noncomputable def fns_47 : List (FuncId × Fn) := (47, F_spec_l1Str) :: fns_31
theorem g_47 : Good Tryz.prog ⟨tis, fns_47, [], false⟩ := g_31.cons m_spec_l1Str
noncomputable def spec_l1Num (c0 : L1Cur) : Option (L1Cur × Int) :=
  (spec_l1Below c0 1000).bind fun t5 =>
  (spec_l1Int t5.1 [0, 1, (-1), 127, 128, (-128), (-129), 255, 256, 32767, 32768, (-32769), 8388608, 2147483647, (-2147483648), 2147483648, (-2147483649), 9223372036854775807, (-9223372036854775808), t5.2]).bind fun t7 =>
  some t7
noncomputable def F_spec_l1Num : Fn := ⟨[.ptr cL1Cur none], [.val false (.one (.int .i64)) (some true)], fun a => spec_l1Num a⟩
def a_spec_l1Num : List (Nat × LoopAnn) := []
theorem e_spec_l1Num : fnDen ⟨tis, fns_47, [], false⟩ a_spec_l1Num Tryz.f58 (codeOf Tryz.f58) [.ptr cL1Cur none] [.val false (.one (.int .i64)) (some true)] = fun a => spec_l1Num a := by kernel_rfl
theorem m_spec_l1Num : Meets Tryz.prog 58 F_spec_l1Num := by
  have h := meets_of (ann := a_spec_l1Num) (ps := [.ptr cL1Cur none]) (rs := [.val false (.one (.int .i64)) (some true)]) g_47 mixed Tryz.func58 (by kernel_rfl) (by kernel_rfl : Tryz.f58.body = some (codeOf Tryz.f58))
  rw [e_spec_l1Num] at h
  exact h
noncomputable def fns_58 : List (FuncId × Fn) := (58, F_spec_l1Num) :: fns_47
theorem g_58 : Good Tryz.prog ⟨tis, fns_58, [], false⟩ := g_47.cons m_spec_l1Num
noncomputable def spec_l3Int (n0 : Int) : Option Val :=
  some (2, n0, [], [])
noncomputable def F_spec_l3Int : Fn := ⟨[.val false (.one (.int .i64)) false], [.val true cVal (some true)], fun a => spec_l3Int a⟩
def a_spec_l3Int : List (Nat × LoopAnn) := []
theorem e_spec_l3Int : fnDen ⟨tis, fns_58, [], false⟩ a_spec_l3Int Tryz.f78 (codeOf Tryz.f78) [.val false (.one (.int .i64)) false] [.val true cVal (some true)] = fun a => spec_l3Int a := by kernel_rfl
theorem m_spec_l3Int : Meets Tryz.prog 78 F_spec_l3Int := by
  have h := meets_of (ann := a_spec_l3Int) (ps := [.val false (.one (.int .i64)) false]) (rs := [.val true cVal (some true)]) g_58 mixed Tryz.func78 (by kernel_rfl) (by kernel_rfl : Tryz.f78.body = some (codeOf Tryz.f78))
  rw [e_spec_l3Int] at h
  exact h
noncomputable def fns_78 : List (FuncId × Fn) := (78, F_spec_l3Int) :: fns_58
theorem g_78 : Good Tryz.prog ⟨tis, fns_78, [], false⟩ := g_58.cons m_spec_l3Int
noncomputable def spec_l3Draw (c0 : L1Cur) : Option (L1Cur × Val) :=
  (spec_l1Below c0 6).bind fun t4 =>
  cond (t4.2 == 0)
    (some (t4.1, (5, 0, [], [])))
    (cond (t4.2 == 1)
      (cond (t4.2 == 1)
        ((spec_l1Num t4.1).bind fun t12 =>
        (spec_l1Clip t12.2).bind fun t13 =>
        (spec_l3Int t13).bind fun t14 =>
        some (t12.1, t14))
        (cond (t4.2 == 3)
          ((spec_l1Str t4.1 ([[], [97], [121, 97, 114, 100], [0]] : List (List UInt8))).bind fun t19 =>
          some (t19.1, (4, 0, t19.2, [])))
          (cond (t4.2 == 4)
            ((spec_l2Draw t4.1).bind fun t24 =>
            some (t24.1, (6, 0, [], t24.2)))
            ((spec_l1Int t4.1 ([128, 130] : List Int)).bind fun t28 =>
            some (t28.1, (t28.2, 0, [], []))))))
      (cond (t4.2 == 2)
        ((spec_l1Num t4.1).bind fun t12_1 =>
        (spec_l1Clip t12_1.2).bind fun t13_1 =>
        (spec_l3Int t13_1).bind fun t14_1 =>
        some (t12_1.1, t14_1))
        (cond (t4.2 == 3)
          ((spec_l1Str t4.1 ([[], [97], [121, 97, 114, 100], [0]] : List (List UInt8))).bind fun t19_1 =>
          some (t19_1.1, (4, 0, t19_1.2, [])))
          (cond (t4.2 == 4)
            ((spec_l2Draw t4.1).bind fun t24_1 =>
            some (t24_1.1, (6, 0, [], t24_1.2)))
            ((spec_l1Int t4.1 ([128, 130] : List Int)).bind fun t28_1 =>
            some (t28_1.1, (t28_1.2, 0, [], [])))))))
noncomputable def F_spec_l3Draw : Fn := ⟨[.ptr cL1Cur none], [.val true cVal (some true)], fun a => spec_l3Draw a⟩
def a_spec_l3Draw : List (Nat × LoopAnn) := []
theorem e_spec_l3Draw : fnDen ⟨tis, fns_78, [], false⟩ a_spec_l3Draw Tryz.f57 (codeOf Tryz.f57) [.ptr cL1Cur none] [.val true cVal (some true)] = fun a => spec_l3Draw a := by kernel_rfl
theorem m_spec_l3Draw : Meets Tryz.prog 57 F_spec_l3Draw := by
  have h := meets_of (ann := a_spec_l3Draw) (ps := [.ptr cL1Cur none]) (rs := [.val true cVal (some true)]) g_78 mixed Tryz.func57 (by kernel_rfl) (by kernel_rfl : Tryz.f57.body = some (codeOf Tryz.f57))
  rw [e_spec_l3Draw] at h
  exact h
noncomputable def fns_57 : List (FuncId × Fn) := (57, F_spec_l3Draw) :: fns_78
theorem g_57 : Good Tryz.prog ⟨tis, fns_57, [], false⟩ := g_78.cons m_spec_l3Draw
noncomputable def spec_l3Any (c0 : L1Cur) : Option (L1Cur × Val) :=
  (spec_l3Draw c0).bind fun t5 =>
  (spec_l1Below t5.1 12).bind fun t7 =>
  cond (t7.2 == 0)
    ((spec_l1Int t7.1 ([0, 1, 2, 4, 5, 6, 128, 129, 130] : List Int)).bind fun t12 =>
    some (t12.1, (t12.2, t5.2.2.1, t5.2.2.2.1, t5.2.2.2.2)))
    (cond (t7.2 == 1)
      ((spec_l1Num t7.1).bind fun t17 =>
      some (t17.1, (t5.2.1, t17.2, t5.2.2.2.1, t5.2.2.2.2)))
      (cond (t7.2 == 2)
        ((spec_l1Below t7.1 2).bind fun t22 =>
        (mkLen (w64 (20 + t22.2))).bind fun n =>
        some (t22.1, (t5.2.1, t5.2.2.1, bytesOf (List.replicate n (0 : Int)), t5.2.2.2.2)))
        (cond (t7.2 == 3)
          ((spec_l2Any t7.1).bind fun t30 =>
          some (t30.1, (t5.2.1, t5.2.2.1, t5.2.2.2.1, t30.2)))
          (some (t7.1, t5.2)))))
noncomputable def F_spec_l3Any : Fn := ⟨[.ptr cL1Cur none], [.val true cVal (some true)], fun a => spec_l3Any a⟩
def a_spec_l3Any : List (Nat × LoopAnn) := []
theorem e_spec_l3Any : fnDen ⟨tis, fns_57, [], false⟩ a_spec_l3Any Tryz.f25 (codeOf Tryz.f25) [.ptr cL1Cur none] [.val true cVal (some true)] = fun a => spec_l3Any a := by kernel_rfl
theorem m_spec_l3Any : Meets Tryz.prog 25 F_spec_l3Any := by
  have h := meets_of (ann := a_spec_l3Any) (ps := [.ptr cL1Cur none]) (rs := [.val true cVal (some true)]) g_57 mixed Tryz.func25 (by kernel_rfl) (by kernel_rfl : Tryz.f25.body = some (codeOf Tryz.f25))
  rw [e_spec_l3Any] at h
  exact h
noncomputable def fns_25 : List (FuncId × Fn) := (25, F_spec_l3Any) :: fns_57
theorem g_25 : Good Tryz.prog ⟨tis, fns_25, [], false⟩ := g_57.cons m_spec_l3Any
noncomputable def spec_l4Draw_l0 (i4 : Int) (b0 : List Int) (b1 : Int) (b2 : Int) (b0_1 : Int) (b1_1 : Int) (b2_1 : Int) (b3 : Int) (b4 : List Bind) : Option ((Int × List Int × Int × Int × Int × Int × Int × Int × List Bind) ⊕ (List Int × Int × Int × Int × Int × Int × Int × List Bind)) :=
  cond (decide (i4 > 0))
    ((spec_l2Draw (b0, b1, b2)).bind fun t35 =>
    (spec_l3Draw t35.1).bind fun t37 =>
    (app b4 [(t35.2, t37.2.1, t37.2.2.1, t37.2.2.2.1, t37.2.2.2.2)]).bind fun zs40 =>
    some (.inl (w64 (i4 - 1), t37.1.1, t37.1.2.1, t37.1.2.2, b0_1, b1_1, b2_1, b3, zs40)))
    (some (.inr (b0, b1, b2, b0_1, b1_1, b2_1, b3, b4)))
noncomputable def spec_l4Draw_l0_1 (i4_1 : Int) (b0_4 : List Int) (b1_4 : Int) (b2_4 : Int) (b0_5 : Int) (b1_5 : Int) (b2_5 : Int) (b3_2 : Int) (b4_2 : List Bind) : Option ((Int × List Int × Int × Int × Int × Int × Int × Int × List Bind) ⊕ (List Int × Int × Int × Int × Int × Int × Int × List Bind)) :=
  cond (decide (i4_1 > 0))
    ((spec_l2Draw (b0_4, b1_4, b2_4)).bind fun t35_1 =>
    (spec_l3Draw t35_1.1).bind fun t37_1 =>
    (app b4_2 [(t35_1.2, t37_1.2.1, t37_1.2.2.1, t37_1.2.2.2.1, t37_1.2.2.2.2)]).bind fun zs40_1 =>
    some (.inl (w64 (i4_1 - 1), t37_1.1.1, t37_1.1.2.1, t37_1.1.2.2, b0_5, b1_5, b2_5, b3_2, zs40_1)))
    (some (.inr (b0_4, b1_4, b2_4, b0_5, b1_5, b2_5, b3_2, b4_2)))
noncomputable def spec_l4Draw (c0 : L1Cur) : Option (L1Cur × Pdu) :=
  (spec_l1Int c0 ([160, 161, 162, 163, 165] : List Int)).bind fun t7 =>
  (spec_l1Num t7.1).bind fun t9 =>
  (spec_l1Clip t9.2).bind fun t10 =>
  (cond (t7.2 == 162) (some true) (some (t7.2 == 165))).bind fun t19 =>
  cond t19
    ((spec_l1Below t9.1 4).bind fun t21 =>
    (spec_l1Below t21.1 5).bind fun t24 =>
    (spec_l1Below t24.1 4).bind fun t27 =>
    (loop (fun z => spec_l4Draw_l0 z.1 z.2.1 z.2.2.1 z.2.2.2.1 z.2.2.2.2.1 z.2.2.2.2.2.1 z.2.2.2.2.2.2.1 z.2.2.2.2.2.2.2.1 z.2.2.2.2.2.2.2.2) (t27.2, t27.1.1, t27.1.2.1, t27.1.2.2, t7.2, t10, t21.2, t24.2, [])).bind fun d =>
    some ((d.1, d.2.1, d.2.2.1), d.2.2.2))
    ((spec_l1Below t9.1 4).bind fun t27_1 =>
    (loop (fun z => spec_l4Draw_l0_1 z.1 z.2.1 z.2.2.1 z.2.2.2.1 z.2.2.2.2.1 z.2.2.2.2.2.1 z.2.2.2.2.2.2.1 z.2.2.2.2.2.2.2.1 z.2.2.2.2.2.2.2.2) (t27_1.2, t27_1.1.1, t27_1.1.2.1, t27_1.1.2.2, t7.2, t10, 0, 0, [])).bind fun d_1 =>
    some ((d_1.1, d_1.2.1, d_1.2.2.1), d_1.2.2.2))
noncomputable def F_spec_l4Draw : Fn := ⟨[.ptr cL1Cur none], [.val true cPdu (some true)], fun a => spec_l4Draw a⟩
def a_spec_l4Draw : List (Nat × LoopAnn) := [(0, ⟨⟨[(4, false, [.dat (.int .i64)])], [(1, .box [.dat (.sl (.one (.int .u8))), .dat (.int .i64), .dat (.int .i64)]), (270336, .box [.dat (.int .i64), .dat (.int .i64), .dat (.int .i64), .dat (.int .i64), .own 1000000000]), (1000000000, .root cBind true)]⟩,
    ⟨[], [(1, .box [.dat (.sl (.one (.int .u8))), .dat (.int .i64), .dat (.int .i64)]), (270336, .box [.dat (.int .i64), .dat (.int .i64), .dat (.int .i64), .dat (.int .i64), .own 1000000300]), (1000000300, .root cBind true)]⟩, none⟩)]
theorem e_spec_l4Draw : fnDen ⟨tis, fns_25, [], false⟩ a_spec_l4Draw Tryz.f38 (codeOf Tryz.f38) [.ptr cL1Cur none] [.val true cPdu (some true)] = fun a => spec_l4Draw a := by kernel_rfl
theorem m_spec_l4Draw : Meets Tryz.prog 38 F_spec_l4Draw := by
  have h := meets_of (ann := a_spec_l4Draw) (ps := [.ptr cL1Cur none]) (rs := [.val true cPdu (some true)]) g_25 mixed Tryz.func38 (by kernel_rfl) (by kernel_rfl : Tryz.f38.body = some (codeOf Tryz.f38))
  rw [e_spec_l4Draw] at h
  exact h
noncomputable def fns_38 : List (FuncId × Fn) := (38, F_spec_l4Draw) :: fns_25
theorem g_38 : Good Tryz.prog ⟨tis, fns_38, [], false⟩ := g_25.cons m_spec_l4Draw
noncomputable def spec_l4Any_l1 (b0 : List Int) (b1 : Int) (b2 : Int) (b0_1 : Int) (b1_1 : Int) (b2_1 : Int) (b3 : Int) (b4 : List Bind) : Option ((List Int × Int × Int × Int × Int × Int × Int × List Bind) ⊕ (List Int × Int × Int × Int × Int × Int × Int × List Bind)) :=
  (spec_l1Below (b0, b1, b2) 2).bind fun t37 =>
  cond (decide ((b4.length : Int) < (w64 (10 + t37.2))))
    ((spec_l2Draw t37.1).bind fun t43 =>
    (app b4 ([(t43.2, 4, 0, [116, 119, 101, 110, 116, 121, 45, 98, 121, 116, 101, 115, 45, 111, 102, 45, 116, 101, 120, 116], [])])).bind fun zs47 =>
    some (.inl (t43.1.1, t43.1.2.1, t43.1.2.2, b0_1, b1_1, b2_1, b3, zs47)))
    (some (.inr (t37.1.1, t37.1.2.1, t37.1.2.2, b0_1, b1_1, b2_1, b3, b4)))
noncomputable def spec_l4Any (c0 : L1Cur) : Option (L1Cur × Pdu) :=
  (spec_l4Draw c0).bind fun t5 =>
  (spec_l1Below t5.1 12).bind fun t7 =>
  cond (t7.2 == 0)
    ((spec_l1Below t7.1 256).bind fun t11 =>
    some (t11.1, (t11.2, t5.2.2.1, t5.2.2.2.1, t5.2.2.2.2.1, t5.2.2.2.2.2)))
    (cond (t7.2 == 1)
      ((spec_l1Int t7.1 ([(-1), 1, 1000, 1001] : List Int)).bind fun t17 =>
      some (t17.1, (t5.2.1, t5.2.2.1, t17.2, t5.2.2.2.2.1, t5.2.2.2.2.2)))
      (cond (t7.2 == 2)
        ((spec_l2Any t7.1).bind fun t24 =>
        (spec_l3Any t24.1).bind fun t26 =>
        (app t5.2.2.2.2.2 [(t24.2, t26.2.1, t26.2.2.1, t26.2.2.2.1, t26.2.2.2.2)]).bind fun zs29 =>
        some (t26.1, (t5.2.1, t5.2.2.1, t5.2.2.2.1, t5.2.2.2.2.1, zs29)))
        (cond (t7.2 == 3)
          ((loop (fun z => spec_l4Any_l1 z.1 z.2.1 z.2.2.1 z.2.2.2.1 z.2.2.2.2.1 z.2.2.2.2.2.1 z.2.2.2.2.2.2.1 z.2.2.2.2.2.2.2) (t7.1.1, t7.1.2.1, t7.1.2.2, t5.2.1, t5.2.2.1, t5.2.2.2.1, t5.2.2.2.2.1, t5.2.2.2.2.2)).bind fun d =>
          some ((d.1, d.2.1, d.2.2.1), d.2.2.2))
          (some (t7.1, t5.2)))))
noncomputable def F_spec_l4Any : Fn := ⟨[.ptr cL1Cur none], [.val true cPdu (some true)], fun a => spec_l4Any a⟩
def a_spec_l4Any : List (Nat × LoopAnn) := [(1, ⟨⟨[], [(1, .box [.dat (.sl (.one (.int .u8))), .dat (.int .i64), .dat (.int .i64)]), (265216, .box [.dat (.int .i64), .dat (.int .i64), .dat (.int .i64), .dat (.int .i64), .own 1000001000]), (1000001000, .root cBind true)]⟩,
    ⟨[], [(1, .box [.dat (.sl (.one (.int .u8))), .dat (.int .i64), .dat (.int .i64)]), (265216, .box [.dat (.int .i64), .dat (.int .i64), .dat (.int .i64), .dat (.int .i64), .own 1000001300]), (1000001300, .root cBind true)]⟩, none⟩)]
theorem e_spec_l4Any : fnDen ⟨tis, fns_38, [], false⟩ a_spec_l4Any Tryz.f19 (codeOf Tryz.f19) [.ptr cL1Cur none] [.val true cPdu (some true)] = fun a => spec_l4Any a := by kernel_rfl
theorem m_spec_l4Any : Meets Tryz.prog 19 F_spec_l4Any := by
  have h := meets_of (ann := a_spec_l4Any) (ps := [.ptr cL1Cur none]) (rs := [.val true cPdu (some true)]) g_38 mixed Tryz.func19 (by kernel_rfl) (by kernel_rfl : Tryz.f19.body = some (codeOf Tryz.f19))
  rw [e_spec_l4Any] at h
  exact h
noncomputable def fns_19 : List (FuncId × Fn) := (19, F_spec_l4Any) :: fns_38
theorem g_19 : Good Tryz.prog ⟨tis, fns_19, [], false⟩ := g_38.cons m_spec_l4Any
noncomputable def spec_DrawPduText (code0 : List Int) : Option Pdu :=
  (spec_l1New code0).bind fun t5 =>
  (spec_l4Any t5).bind fun t7 =>
  some t7.2
noncomputable def F_spec_DrawPduText : Fn := ⟨[.val false (.one (.sl (.one (.int .u8)))) false], [.val true cPdu (some true)], fun a => spec_DrawPduText a⟩
def a_spec_DrawPduText : List (Nat × LoopAnn) := []
theorem e_spec_DrawPduText : fnDen ⟨tis, fns_19, [], false⟩ a_spec_DrawPduText Tryz.f5 (codeOf Tryz.f5) [.val false (.one (.sl (.one (.int .u8)))) false] [.val true cPdu (some true)] = fun a => spec_DrawPduText a := by kernel_rfl
theorem m_spec_DrawPduText : Meets Tryz.prog 5 F_spec_DrawPduText := by
  have h := meets_of (ann := a_spec_DrawPduText) (ps := [.val false (.one (.sl (.one (.int .u8)))) false]) (rs := [.val true cPdu (some true)]) g_19 mixed Tryz.func5 (by kernel_rfl) (by kernel_rfl : Tryz.f5.body = some (codeOf Tryz.f5))
  rw [e_spec_DrawPduText] at h
  exact h
noncomputable def fns_5 : List (FuncId × Fn) := (5, F_spec_DrawPduText) :: fns_19
theorem g_5 : Good Tryz.prog ⟨tis, fns_5, [], false⟩ := g_19.cons m_spec_DrawPduText
noncomputable def impl_in (n0 : Int) (low1 : Int) (high2 : Int) : Option Bool :=
  (cond (decide (n0 ≥ low1)) (some (decide (n0 ≤ high2))) (some false)).bind fun t14 =>
  some t14
noncomputable def F_impl_in : Fn := ⟨[.val false (.one (.int .i64)) false, .val false (.one (.int .i64)) false, .val false (.one (.int .i64)) false], [.val false (.one .bool) (some true)], fun a => impl_in a.1 a.2.1 a.2.2⟩
def a_impl_in : List (Nat × LoopAnn) := []
theorem e_impl_in : fnDen ⟨tis, fns_5, [], false⟩ a_impl_in Tryz.f42 (codeOf Tryz.f42) [.val false (.one (.int .i64)) false, .val false (.one (.int .i64)) false, .val false (.one (.int .i64)) false] [.val false (.one .bool) (some true)] = fun a => impl_in a.1 a.2.1 a.2.2 := by kernel_rfl
theorem m_impl_in : Meets Tryz.prog 42 F_impl_in := by
  have h := meets_of (ann := a_impl_in) (ps := [.val false (.one (.int .i64)) false, .val false (.one (.int .i64)) false, .val false (.one (.int .i64)) false]) (rs := [.val false (.one .bool) (some true)]) g_5 mixed Tryz.func42 (by kernel_rfl) (by kernel_rfl : Tryz.f42.body = some (codeOf Tryz.f42))
  rw [e_impl_in] at h
  exact h
noncomputable def fns_42 : List (FuncId × Fn) := (42, F_impl_in) :: fns_5
theorem g_42 : Good Tryz.prog ⟨tis, fns_42, [], false⟩ := g_5.cons m_impl_in
noncomputable def impl_OidOk_l0 (o0 : List Int) (t7 : Int) : Option (Int ⊕ (Unit ⊕ Bool)) :=
  cond (decide (t7 < (o0.length : Int)))
    ((at? o0 t7).bind fun x9 =>
    (impl_in x9 0 100000).bind fun t12 =>
    cond (!t12) (some (.inr (.inr false))) (some (.inl (w64 (t7 + 1)))))
    (some (.inr (.inl ())))
noncomputable def impl_OidOk (o0 : List Int) : Option Bool :=
  (loop (fun z => impl_OidOk_l0 o0 z) 0).bind (Sum.elim (fun d =>
    (impl_in (o0.length : Int) 1 10).bind fun t17 =>
    some t17) (fun r => some r))
noncomputable def F_impl_OidOk : Fn := ⟨[.val false (.one (.sl (.one (.int .i64)))) false], [.val false (.one .bool) (some true)], fun a => impl_OidOk a⟩
def a_impl_OidOk : List (Nat × LoopAnn) := [(0, ⟨⟨[(7, false, [.dat (.int .i64)])], []⟩,
    ⟨[], []⟩, some ⟨[(2, false, [.dat .bool])], []⟩⟩)]
theorem e_impl_OidOk : fnDen ⟨tis, fns_42, [], false⟩ a_impl_OidOk Tryz.f43 (codeOf Tryz.f43) [.val false (.one (.sl (.one (.int .i64)))) false] [.val false (.one .bool) (some true)] = fun a => impl_OidOk a := by kernel_rfl
theorem m_impl_OidOk : Meets Tryz.prog 43 F_impl_OidOk := by
  have h := meets_of (ann := a_impl_OidOk) (ps := [.val false (.one (.sl (.one (.int .i64)))) false]) (rs := [.val false (.one .bool) (some true)]) g_42 mixed Tryz.func43 (by kernel_rfl) (by kernel_rfl : Tryz.f43.body = some (codeOf Tryz.f43))
  rw [e_impl_OidOk] at h
  exact h
noncomputable def fns_43 : List (FuncId × Fn) := (43, F_impl_OidOk) :: fns_42
theorem g_43 : Good Tryz.prog ⟨tis, fns_43, [], false⟩ := g_42.cons m_impl_OidOk
noncomputable def impl_OidText_l0 (o0 : List Int) (t11 : Int) (out3 : List (List UInt8)) : Option ((Int × List (List UInt8)) ⊕ (List (List UInt8))) :=
  cond (decide (t11 < (o0.length : Int)))
    ((at? o0 t11).bind fun x13 =>
    (libItoa x13).bind fun t17 =>
    (app out3 [t17]).bind fun zs19 =>
    some (.inl (w64 (t11 + 1), zs19)))
    (some (.inr out3))
noncomputable def impl_OidText (o0 : List Int) : Option (List UInt8) :=
  (impl_OidOk o0).bind fun t7 =>
  cond (!t7)
    (some [])
    ((loop (fun z => impl_OidText_l0 o0 z.1 z.2) (0, [])).bind fun d =>
    (libJoin d [46]).bind fun t22 =>
    some t22)
noncomputable def F_impl_OidText : Fn := ⟨[.val false (.one (.sl (.one (.int .i64)))) false], [.val false (.one .str) (some true)], fun a => impl_OidText a⟩
def a_impl_OidText : List (Nat × LoopAnn) := [(0, ⟨⟨[(3, false, [.own 1000000000]), (11, false, [.dat (.int .i64)])], [(1000000000, .root (.one .str) true)]⟩,
    ⟨[(3, false, [.own 1000000300])], [(1000000300, .root (.one .str) true)]⟩, none⟩)]
theorem e_impl_OidText : fnDen ⟨tis, fns_43, [], false⟩ a_impl_OidText Tryz.f27 (codeOf Tryz.f27) [.val false (.one (.sl (.one (.int .i64)))) false] [.val false (.one .str) (some true)] = fun a => impl_OidText a := by kernel_rfl
theorem m_impl_OidText : Meets Tryz.prog 27 F_impl_OidText := by
  have h := meets_of (ann := a_impl_OidText) (ps := [.val false (.one (.sl (.one (.int .i64)))) false]) (rs := [.val false (.one .str) (some true)]) g_43 mixed Tryz.func27 (by kernel_rfl) (by kernel_rfl : Tryz.f27.body = some (codeOf Tryz.f27))
  rw [e_impl_OidText] at h
  exact h
noncomputable def fns_27 : List (FuncId × Fn) := (27, F_impl_OidText) :: fns_43
theorem g_27 : Good Tryz.prog ⟨tis, fns_27, [], false⟩ := g_43.cons m_impl_OidText
noncomputable def impl_isInt (n0 : Int) : Option Bool :=
  (impl_in n0 (-2147483648) 2147483647).bind fun t4 =>
  some t4
noncomputable def F_impl_isInt : Fn := ⟨[.val false (.one (.int .i64)) false], [.val false (.one .bool) (some true)], fun a => impl_isInt a⟩
def a_impl_isInt : List (Nat × LoopAnn) := []
theorem e_impl_isInt : fnDen ⟨tis, fns_27, [], false⟩ a_impl_isInt Tryz.f44 (codeOf Tryz.f44) [.val false (.one (.int .i64)) false] [.val false (.one .bool) (some true)] = fun a => impl_isInt a := by kernel_rfl
theorem m_impl_isInt : Meets Tryz.prog 44 F_impl_isInt := by
  have h := meets_of (ann := a_impl_isInt) (ps := [.val false (.one (.int .i64)) false]) (rs := [.val false (.one .bool) (some true)]) g_27 mixed Tryz.func44 (by kernel_rfl) (by kernel_rfl : Tryz.f44.body = some (codeOf Tryz.f44))
  rw [e_impl_isInt] at h
  exact h
noncomputable def fns_44 : List (FuncId × Fn) := (44, F_impl_isInt) :: fns_27
theorem g_44 : Good Tryz.prog ⟨tis, fns_44, [], false⟩ := g_27.cons m_impl_isInt
noncomputable def impl_SameOid_l0 (a0 : List Int) (b1 : List Int) (t13 : Int) : Option (Int ⊕ (Unit ⊕ Bool)) :=
  cond (decide (t13 < (a0.length : Int)))
    ((at? a0 t13).bind fun x18 =>
    (at? b1 t13).bind fun x22 =>
    cond (x18 != x22) (some (.inr (.inr false))) (some (.inl (w64 (t13 + 1)))))
    (some (.inr (.inl ())))
noncomputable def impl_SameOid (a0 : List Int) (b1 : List Int) : Option Bool :=
  cond ((a0.length : Int) != (b1.length : Int))
    (some false)
    ((loop (fun z => impl_SameOid_l0 a0 b1 z) 0).bind (Sum.elim (fun d =>
      some true) (fun r => some r)))
noncomputable def F_impl_SameOid : Fn := ⟨[.val false (.one (.sl (.one (.int .i64)))) false, .val false (.one (.sl (.one (.int .i64)))) false], [.val false (.one .bool) (some true)], fun a => impl_SameOid a.1 a.2⟩
def a_impl_SameOid : List (Nat × LoopAnn) := [(0, ⟨⟨[(13, false, [.dat (.int .i64)])], []⟩,
    ⟨[], []⟩, some ⟨[(4, false, [.dat .bool])], []⟩⟩)]
theorem e_impl_SameOid : fnDen ⟨tis, fns_44, [], false⟩ a_impl_SameOid Tryz.f80 (codeOf Tryz.f80) [.val false (.one (.sl (.one (.int .i64)))) false, .val false (.one (.sl (.one (.int .i64)))) false] [.val false (.one .bool) (some true)] = fun a => impl_SameOid a.1 a.2 := by kernel_rfl
theorem m_impl_SameOid : Meets Tryz.prog 80 F_impl_SameOid := by
  have h := meets_of (ann := a_impl_SameOid) (ps := [.val false (.one (.sl (.one (.int .i64)))) false, .val false (.one (.sl (.one (.int .i64)))) false]) (rs := [.val false (.one .bool) (some true)]) g_44 mixed Tryz.func80 (by kernel_rfl) (by kernel_rfl : Tryz.f80.body = some (codeOf Tryz.f80))
  rw [e_impl_SameOid] at h
  exact h
noncomputable def fns_80 : List (FuncId × Fn) := (80, F_impl_SameOid) :: fns_44
theorem g_80 : Good Tryz.prog ⟨tis, fns_80, [], false⟩ := g_44.cons m_impl_SameOid
noncomputable def impl_SameVal (a0 : Val) (b1 : Val) : Option Bool :=
  (cond (a0.1 == b1.1) (some (a0.2.1 == b1.2.1)) (some false)).bind fun t16 =>
  (cond t16 (some (a0.2.2.1 == b1.2.2.1)) (some false)).bind fun t23 =>
  (cond t23
    ((impl_SameOid a0.2.2.2 b1.2.2.2).bind fun t29 =>
    some t29)
    (some false)).bind fun t30 =>
  some t30
noncomputable def F_impl_SameVal : Fn := ⟨[.val true cVal false, .val true cVal false], [.val false (.one .bool) (some true)], fun a => impl_SameVal a.1 a.2⟩
def a_impl_SameVal : List (Nat × LoopAnn) := []
theorem e_impl_SameVal : fnDen ⟨tis, fns_80, [], false⟩ a_impl_SameVal Tryz.f62 (codeOf Tryz.f62) [.val true cVal false, .val true cVal false] [.val false (.one .bool) (some true)] = fun a => impl_SameVal a.1 a.2 := by kernel_rfl
theorem m_impl_SameVal : Meets Tryz.prog 62 F_impl_SameVal := by
  have h := meets_of (ann := a_impl_SameVal) (ps := [.val true cVal false, .val true cVal false]) (rs := [.val false (.one .bool) (some true)]) g_80 mixed Tryz.func62 (by kernel_rfl) (by kernel_rfl : Tryz.f62.body = some (codeOf Tryz.f62))
  rw [e_impl_SameVal] at h
  exact h
noncomputable def fns_62 : List (FuncId × Fn) := (62, F_impl_SameVal) :: fns_80
theorem g_62 : Good Tryz.prog ⟨tis, fns_62, [], false⟩ := g_80.cons m_impl_SameVal
noncomputable def impl_ValOk (v0 : Val) : Option Bool :=
  cond (v0.1 == 2)
    ((impl_isInt v0.2.1).bind fun t17 =>
    (cond t17
      ((impl_SameVal v0 (v0.1, v0.2.1, [], [])).bind fun t43 =>
      some t43)
      (some false)).bind fun t44 =>
    some t44)
    (cond (v0.1 == 4)
      (let ok4 := decide ((v0.2.2.1.length : Int) ≤ 20)
      (cond ok4
        ((impl_SameVal v0 (v0.1, 0, v0.2.2.1, [])).bind fun t43_1 =>
        some t43_1)
        (some false)).bind fun t44_1 =>
      some t44_1)
      (cond (v0.1 == 6)
        ((impl_OidOk v0.2.2.2).bind fun t34 =>
        (cond t34
          ((impl_SameVal v0 (v0.1, 0, [], v0.2.2.2)).bind fun t43_2 =>
          some t43_2)
          (some false)).bind fun t44_2 =>
        some t44_2)
        (cond (v0.1 == 5)
          (cond (v0.1 == 5)
            (((impl_SameVal v0 (v0.1, 0, [], [])).bind fun t43_3 =>
            some t43_3).bind fun t44_3 =>
            some t44_3)
            (some false))
          (cond (v0.1 == 128)
            (cond (v0.1 == 128)
              (((impl_SameVal v0 (v0.1, 0, [], [])).bind fun t43_4 =>
              some t43_4).bind fun t44_4 =>
              some t44_4)
              (some false))
            (cond (v0.1 == 130)
              (((impl_SameVal v0 (v0.1, 0, [], [])).bind fun t43_5 =>
              some t43_5).bind fun t44_5 =>
              some t44_5)
              (some false))))))
noncomputable def F_impl_ValOk : Fn := ⟨[.val true cVal false], [.val false (.one .bool) (some true)], fun a => impl_ValOk a⟩
def a_impl_ValOk : List (Nat × LoopAnn) := []
theorem e_impl_ValOk : fnDen ⟨tis, fns_62, [], false⟩ a_impl_ValOk Tryz.f36 (codeOf Tryz.f36) [.val true cVal false] [.val false (.one .bool) (some true)] = fun a => impl_ValOk a := by kernel_rfl
theorem m_impl_ValOk : Meets Tryz.prog 36 F_impl_ValOk := by
  have h := meets_of (ann := a_impl_ValOk) (ps := [.val true cVal false]) (rs := [.val false (.one .bool) (some true)]) g_62 mixed Tryz.func36 (by kernel_rfl) (by kernel_rfl : Tryz.f36.body = some (codeOf Tryz.f36))
  rw [e_impl_ValOk] at h
  exact h
noncomputable def fns_36 : List (FuncId × Fn) := (36, F_impl_ValOk) :: fns_62
theorem g_36 : Good Tryz.prog ⟨tis, fns_36, [], false⟩ := g_62.cons m_impl_ValOk
noncomputable def impl_ValText (v0 : Val) : Option (List UInt8) :=
  (impl_ValOk v0).bind fun t4 =>
  cond (!t4)
    (some [])
    (cond (v0.1 == 5)
      (some [110, 117, 108, 108])
      (cond (v0.1 == 2)
        ((libItoa v0.2.1).bind fun t14 =>
        some t14)
        (cond (v0.1 == 4)
          ((cat [39] v0.2.2.1).bind fun t19 =>
          (cat t19 [39]).bind fun t20 =>
          some t20)
          (cond (v0.1 == 6)
            ((impl_OidText v0.2.2.2).bind fun t25 =>
            some t25)
            (cond (v0.1 == 128) (some [110, 111, 110, 101]) (some [101, 110, 100]))))))
noncomputable def F_impl_ValText : Fn := ⟨[.val true cVal false], [.val false (.one .str) (some true)], fun a => impl_ValText a⟩
def a_impl_ValText : List (Nat × LoopAnn) := []
theorem e_impl_ValText : fnDen ⟨tis, fns_36, [], false⟩ a_impl_ValText Tryz.f15 (codeOf Tryz.f15) [.val true cVal false] [.val false (.one .str) (some true)] = fun a => impl_ValText a := by kernel_rfl
theorem m_impl_ValText : Meets Tryz.prog 15 F_impl_ValText := by
  have h := meets_of (ann := a_impl_ValText) (ps := [.val true cVal false]) (rs := [.val false (.one .str) (some true)]) g_36 mixed Tryz.func15 (by kernel_rfl) (by kernel_rfl : Tryz.f15.body = some (codeOf Tryz.f15))
  rw [e_impl_ValText] at h
  exact h
noncomputable def fns_15 : List (FuncId × Fn) := (15, F_impl_ValText) :: fns_36
theorem g_15 : Good Tryz.prog ⟨tis, fns_15, [], false⟩ := g_36.cons m_impl_ValText
noncomputable def impl_BindText (x0 : Bind) : Option (List UInt8) :=
  (impl_OidText x0.1).bind fun t5 =>
  (cat t5 [32, 61, 32]).bind fun t6 =>
  (impl_ValText x0.2).bind fun t9 =>
  (cat t6 t9).bind fun t10 =>
  some t10
noncomputable def F_impl_BindText : Fn := ⟨[.val true cBind false], [.val false (.one .str) (some true)], fun a => impl_BindText a⟩
def a_impl_BindText : List (Nat × LoopAnn) := []
theorem e_impl_BindText : fnDen ⟨tis, fns_15, [], false⟩ a_impl_BindText Tryz.f11 (codeOf Tryz.f11) [.val true cBind false] [.val false (.one .str) (some true)] = fun a => impl_BindText a := by kernel_rfl
theorem m_impl_BindText : Meets Tryz.prog 11 F_impl_BindText := by
  have h := meets_of (ann := a_impl_BindText) (ps := [.val true cBind false]) (rs := [.val false (.one .str) (some true)]) g_15 mixed Tryz.func11 (by kernel_rfl) (by kernel_rfl : Tryz.f11.body = some (codeOf Tryz.f11))
  rw [e_impl_BindText] at h
  exact h
noncomputable def fns_11 : List (FuncId × Fn) := (11, F_impl_BindText) :: fns_15
theorem g_11 : Good Tryz.prog ⟨tis, fns_11, [], false⟩ := g_15.cons m_impl_BindText
noncomputable def impl_PduOk_l1 (p0 : Pdu) (t35 : Int) : Option (Int ⊕ (Unit ⊕ Bool)) :=
  cond (decide (t35 < (p0.2.2.2.2.length : Int)))
    ((at? p0.2.2.2.2 t35).bind fun x38 =>
    (cond (decide (t35 ≥ 10))
      (some true)
      ((impl_OidOk x38.1).bind fun t45 =>
      some (!t45))).bind fun t47 =>
    (cond t47
      (some true)
      ((impl_ValOk x38.2).bind fun t51 =>
      some (!t51))).bind fun t53 =>
    cond t53 (some (.inr (.inr false))) (some (.inl (w64 (t35 + 1)))))
    (some (.inr (.inl ())))
noncomputable def impl_PduOk_l1_1 (p0 : Pdu) (t35_1 : Int) : Option (Int ⊕ (Unit ⊕ Bool)) :=
  cond (decide (t35_1 < (p0.2.2.2.2.length : Int)))
    ((at? p0.2.2.2.2 t35_1).bind fun x38_1 =>
    (cond (decide (t35_1 ≥ 10))
      (some true)
      ((impl_OidOk x38_1.1).bind fun t45_1 =>
      some (!t45_1))).bind fun t47_1 =>
    (cond t47_1
      (some true)
      ((impl_ValOk x38_1.2).bind fun t51_1 =>
      some (!t51_1))).bind fun t53_1 =>
    cond t53_1 (some (.inr (.inr false))) (some (.inl (w64 (t35_1 + 1)))))
    (some (.inr (.inl ())))
noncomputable def impl_PduOk_l1_2 (p0 : Pdu) (t35_2 : Int) : Option (Int ⊕ (Unit ⊕ Bool)) :=
  cond (decide (t35_2 < (p0.2.2.2.2.length : Int)))
    ((at? p0.2.2.2.2 t35_2).bind fun x38_2 =>
    (cond (decide (t35_2 ≥ 10))
      (some true)
      ((impl_OidOk x38_2.1).bind fun t45_2 =>
      some (!t45_2))).bind fun t47_2 =>
    (cond t47_2
      (some true)
      ((impl_ValOk x38_2.2).bind fun t51_2 =>
      some (!t51_2))).bind fun t53_2 =>
    cond t53_2 (some (.inr (.inr false))) (some (.inl (w64 (t35_2 + 1)))))
    (some (.inr (.inl ())))
noncomputable def impl_PduOk_l1_3 (p0 : Pdu) (t35_3 : Int) : Option (Int ⊕ (Unit ⊕ Bool)) :=
  cond (decide (t35_3 < (p0.2.2.2.2.length : Int)))
    ((at? p0.2.2.2.2 t35_3).bind fun x38_3 =>
    (cond (decide (t35_3 ≥ 10))
      (some true)
      ((impl_OidOk x38_3.1).bind fun t45_3 =>
      some (!t45_3))).bind fun t47_3 =>
    (cond t47_3
      (some true)
      ((impl_ValOk x38_3.2).bind fun t51_3 =>
      some (!t51_3))).bind fun t53_3 =>
    cond t53_3 (some (.inr (.inr false))) (some (.inl (w64 (t35_3 + 1)))))
    (some (.inr (.inl ())))
noncomputable def impl_PduOk_l1_4 (p0 : Pdu) (t35_4 : Int) : Option (Int ⊕ (Unit ⊕ Bool)) :=
  cond (decide (t35_4 < (p0.2.2.2.2.length : Int)))
    ((at? p0.2.2.2.2 t35_4).bind fun x38_4 =>
    (cond (decide (t35_4 ≥ 10))
      (some true)
      ((impl_OidOk x38_4.1).bind fun t45_4 =>
      some (!t45_4))).bind fun t47_4 =>
    (cond t47_4
      (some true)
      ((impl_ValOk x38_4.2).bind fun t51_4 =>
      some (!t51_4))).bind fun t53_4 =>
    cond t53_4 (some (.inr (.inr false))) (some (.inl (w64 (t35_4 + 1)))))
    (some (.inr (.inl ())))
noncomputable def impl_PduOk_l1_5 (p0 : Pdu) (t35_5 : Int) : Option (Int ⊕ (Unit ⊕ Bool)) :=
  cond (decide (t35_5 < (p0.2.2.2.2.length : Int)))
    ((at? p0.2.2.2.2 t35_5).bind fun x38_5 =>
    (cond (decide (t35_5 ≥ 10))
      (some true)
      ((impl_OidOk x38_5.1).bind fun t45_5 =>
      some (!t45_5))).bind fun t47_5 =>
    (cond t47_5
      (some true)
      ((impl_ValOk x38_5.2).bind fun t51_5 =>
      some (!t51_5))).bind fun t53_5 =>
    cond t53_5 (some (.inr (.inr false))) (some (.inl (w64 (t35_5 + 1)))))
    (some (.inr (.inl ())))
noncomputable def impl_PduOk_l1_6 (p0 : Pdu) (t35_6 : Int) : Option (Int ⊕ (Unit ⊕ Bool)) :=
  cond (decide (t35_6 < (p0.2.2.2.2.length : Int)))
    ((at? p0.2.2.2.2 t35_6).bind fun x38_6 =>
    (cond (decide (t35_6 ≥ 10))
      (some true)
      ((impl_OidOk x38_6.1).bind fun t45_6 =>
      some (!t45_6))).bind fun t47_6 =>
    (cond t47_6
      (some true)
      ((impl_ValOk x38_6.2).bind fun t51_6 =>
      some (!t51_6))).bind fun t53_6 =>
    cond t53_6 (some (.inr (.inr false))) (some (.inl (w64 (t35_6 + 1)))))
    (some (.inr (.inl ())))
noncomputable def impl_PduOk_l1_7 (p0 : Pdu) (t35_7 : Int) : Option (Int ⊕ (Unit ⊕ Bool)) :=
  cond (decide (t35_7 < (p0.2.2.2.2.length : Int)))
    ((at? p0.2.2.2.2 t35_7).bind fun x38_7 =>
    (cond (decide (t35_7 ≥ 10))
      (some true)
      ((impl_OidOk x38_7.1).bind fun t45_7 =>
      some (!t45_7))).bind fun t47_7 =>
    (cond t47_7
      (some true)
      ((impl_ValOk x38_7.2).bind fun t51_7 =>
      some (!t51_7))).bind fun t53_7 =>
    cond t53_7 (some (.inr (.inr false))) (some (.inl (w64 (t35_7 + 1)))))
    (some (.inr (.inl ())))
noncomputable def impl_PduOk_l1_8 (p0 : Pdu) (t35_8 : Int) : Option (Int ⊕ (Unit ⊕ Bool)) :=
  cond (decide (t35_8 < (p0.2.2.2.2.length : Int)))
    ((at? p0.2.2.2.2 t35_8).bind fun x38_8 =>
    (cond (decide (t35_8 ≥ 10))
      (some true)
      ((impl_OidOk x38_8.1).bind fun t45_8 =>
      some (!t45_8))).bind fun t47_8 =>
    (cond t47_8
      (some true)
      ((impl_ValOk x38_8.2).bind fun t51_8 =>
      some (!t51_8))).bind fun t53_8 =>
    cond t53_8 (some (.inr (.inr false))) (some (.inl (w64 (t35_8 + 1)))))
    (some (.inr (.inl ())))
noncomputable def impl_PduOk (p0 : Pdu) : Option Bool :=
  cond (p0.1 == 160)
    (cond (p0.1 == 160)
      ((cond (p0.2.2.1 != 0) (some true) (some (p0.2.2.2.1 != 0))).bind fun t18 =>
      cond t18
        (some false)
        ((loop (fun z => impl_PduOk_l1 p0 z) 0).bind (Sum.elim (fun d =>
          (impl_isInt p0.2.1).bind fun t57 =>
          some t57) (fun r => some r))))
      (cond (p0.1 == 162)
        (cond (p0.1 == 162)
          ((impl_in p0.2.2.1 0 1000).bind fun t24 =>
          (cond (!t24)
            (some true)
            ((impl_in p0.2.2.2.1 0 1000).bind fun t29 =>
            some (!t29))).bind fun t31 =>
          cond t31
            (some false)
            ((loop (fun z => impl_PduOk_l1_1 p0 z) 0).bind (Sum.elim (fun d_1 =>
              (impl_isInt p0.2.1).bind fun t57_1 =>
              some t57_1) (fun r_1 => some r_1))))
          (some false))
        (cond (p0.1 == 165)
          ((impl_in p0.2.2.1 0 1000).bind fun t24_1 =>
          (cond (!t24_1)
            (some true)
            ((impl_in p0.2.2.2.1 0 1000).bind fun t29_1 =>
            some (!t29_1))).bind fun t31_1 =>
          cond t31_1
            (some false)
            ((loop (fun z => impl_PduOk_l1_2 p0 z) 0).bind (Sum.elim (fun d_2 =>
              (impl_isInt p0.2.1).bind fun t57_2 =>
              some t57_2) (fun r_2 => some r_2))))
          (some false))))
    (cond (p0.1 == 161)
      (cond (p0.1 == 161)
        ((cond (p0.2.2.1 != 0) (some true) (some (p0.2.2.2.1 != 0))).bind fun t18_1 =>
        cond t18_1
          (some false)
          ((loop (fun z => impl_PduOk_l1_3 p0 z) 0).bind (Sum.elim (fun d_3 =>
            (impl_isInt p0.2.1).bind fun t57_3 =>
            some t57_3) (fun r_3 => some r_3))))
        (cond (p0.1 == 162)
          (cond (p0.1 == 162)
            ((impl_in p0.2.2.1 0 1000).bind fun t24_2 =>
            (cond (!t24_2)
              (some true)
              ((impl_in p0.2.2.2.1 0 1000).bind fun t29_2 =>
              some (!t29_2))).bind fun t31_2 =>
            cond t31_2
              (some false)
              ((loop (fun z => impl_PduOk_l1_4 p0 z) 0).bind (Sum.elim (fun d_4 =>
                (impl_isInt p0.2.1).bind fun t57_4 =>
                some t57_4) (fun r_4 => some r_4))))
            (some false))
          (cond (p0.1 == 165)
            ((impl_in p0.2.2.1 0 1000).bind fun t24_3 =>
            (cond (!t24_3)
              (some true)
              ((impl_in p0.2.2.2.1 0 1000).bind fun t29_3 =>
              some (!t29_3))).bind fun t31_3 =>
            cond t31_3
              (some false)
              ((loop (fun z => impl_PduOk_l1_5 p0 z) 0).bind (Sum.elim (fun d_5 =>
                (impl_isInt p0.2.1).bind fun t57_5 =>
                some t57_5) (fun r_5 => some r_5))))
            (some false))))
      (cond (p0.1 == 163)
        ((cond (p0.2.2.1 != 0) (some true) (some (p0.2.2.2.1 != 0))).bind fun t18_2 =>
        cond t18_2
          (some false)
          ((loop (fun z => impl_PduOk_l1_6 p0 z) 0).bind (Sum.elim (fun d_6 =>
            (impl_isInt p0.2.1).bind fun t57_6 =>
            some t57_6) (fun r_6 => some r_6))))
        (cond (p0.1 == 162)
          (cond (p0.1 == 162)
            ((impl_in p0.2.2.1 0 1000).bind fun t24_4 =>
            (cond (!t24_4)
              (some true)
              ((impl_in p0.2.2.2.1 0 1000).bind fun t29_4 =>
              some (!t29_4))).bind fun t31_4 =>
            cond t31_4
              (some false)
              ((loop (fun z => impl_PduOk_l1_7 p0 z) 0).bind (Sum.elim (fun d_7 =>
                (impl_isInt p0.2.1).bind fun t57_7 =>
                some t57_7) (fun r_7 => some r_7))))
            (some false))
          (cond (p0.1 == 165)
            ((impl_in p0.2.2.1 0 1000).bind fun t24_5 =>
            (cond (!t24_5)
              (some true)
              ((impl_in p0.2.2.2.1 0 1000).bind fun t29_5 =>
              some (!t29_5))).bind fun t31_5 =>
            cond t31_5
              (some false)
              ((loop (fun z => impl_PduOk_l1_8 p0 z) 0).bind (Sum.elim (fun d_8 =>
                (impl_isInt p0.2.1).bind fun t57_8 =>
                some t57_8) (fun r_8 => some r_8))))
            (some false)))))
noncomputable def F_impl_PduOk : Fn := ⟨[.val true cPdu false], [.val false (.one .bool) (some true)], fun a => impl_PduOk a⟩
def a_impl_PduOk : List (Nat × LoopAnn) := [(1, ⟨⟨[(35, false, [.dat (.int .i64)]), (43, false, [.undef]), (44, false, [.undef]), (45, false, [.undef]), (46, false, [.undef]), (49, false, [.undef]), (50, false, [.undef]), (51, false, [.undef]), (52, false, [.undef])], []⟩,
    ⟨[], []⟩, some ⟨[(2, false, [.dat .bool])], []⟩⟩)]
theorem e_impl_PduOk : fnDen ⟨tis, fns_11, [], false⟩ a_impl_PduOk Tryz.f20 (codeOf Tryz.f20) [.val true cPdu false] [.val false (.one .bool) (some true)] = fun a => impl_PduOk a := by kernel_rfl
theorem m_impl_PduOk : Meets Tryz.prog 20 F_impl_PduOk := by
  have h := meets_of (ann := a_impl_PduOk) (ps := [.val true cPdu false]) (rs := [.val false (.one .bool) (some true)]) g_11 mixed Tryz.func20 (by kernel_rfl) (by kernel_rfl : Tryz.f20.body = some (codeOf Tryz.f20))
  rw [e_impl_PduOk] at h
  exact h
noncomputable def fns_20 : List (FuncId × Fn) := (20, F_impl_PduOk) :: fns_11
theorem g_20 : Good Tryz.prog ⟨tis, fns_20, [], false⟩ := g_11.cons m_impl_PduOk
noncomputable def impl_PduText_l1 (p0 : Pdu) (out4 : List UInt8) (t48 : Int) : Option ((List UInt8 × Int) ⊕ (List UInt8)) :=
  cond (decide (t48 < (p0.2.2.2.2.length : Int)))
    ((at? p0.2.2.2.2 t48).bind fun x50 =>
    (impl_BindText x50).bind fun t54 =>
    (cat [10] t54).bind fun t55 =>
    (cat out4 t55).bind fun t56 =>
    some (.inl (t56, w64 (t48 + 1))))
    (some (.inr out4))
noncomputable def impl_PduText_l1_1 (p0 : Pdu) (out4_2 : List UInt8) (t48_1 : Int) : Option ((List UInt8 × Int) ⊕ (List UInt8)) :=
  cond (decide (t48_1 < (p0.2.2.2.2.length : Int)))
    ((at? p0.2.2.2.2 t48_1).bind fun x50_1 =>
    (impl_BindText x50_1).bind fun t54_1 =>
    (cat [10] t54_1).bind fun t55_1 =>
    (cat out4_2 t55_1).bind fun t56_1 =>
    some (.inl (t56_1, w64 (t48_1 + 1))))
    (some (.inr out4_2))
noncomputable def impl_PduText_l1_2 (p0 : Pdu) (out4_4 : List UInt8) (t48_2 : Int) : Option ((List UInt8 × Int) ⊕ (List UInt8)) :=
  cond (decide (t48_2 < (p0.2.2.2.2.length : Int)))
    ((at? p0.2.2.2.2 t48_2).bind fun x50_2 =>
    (impl_BindText x50_2).bind fun t54_2 =>
    (cat [10] t54_2).bind fun t55_2 =>
    (cat out4_4 t55_2).bind fun t56_2 =>
    some (.inl (t56_2, w64 (t48_2 + 1))))
    (some (.inr out4_4))
noncomputable def impl_PduText_l1_3 (p0 : Pdu) (out4_6 : List UInt8) (t48_3 : Int) : Option ((List UInt8 × Int) ⊕ (List UInt8)) :=
  cond (decide (t48_3 < (p0.2.2.2.2.length : Int)))
    ((at? p0.2.2.2.2 t48_3).bind fun x50_3 =>
    (impl_BindText x50_3).bind fun t54_3 =>
    (cat [10] t54_3).bind fun t55_3 =>
    (cat out4_6 t55_3).bind fun t56_3 =>
    some (.inl (t56_3, w64 (t48_3 + 1))))
    (some (.inr out4_6))
noncomputable def impl_PduText_l1_4 (p0 : Pdu) (out4_8 : List UInt8) (t48_4 : Int) : Option ((List UInt8 × Int) ⊕ (List UInt8)) :=
  cond (decide (t48_4 < (p0.2.2.2.2.length : Int)))
    ((at? p0.2.2.2.2 t48_4).bind fun x50_4 =>
    (impl_BindText x50_4).bind fun t54_4 =>
    (cat [10] t54_4).bind fun t55_4 =>
    (cat out4_8 t55_4).bind fun t56_4 =>
    some (.inl (t56_4, w64 (t48_4 + 1))))
    (some (.inr out4_8))
noncomputable def impl_PduText_l1_5 (p0 : Pdu) (out4_10 : List UInt8) (t48_5 : Int) : Option ((List UInt8 × Int) ⊕ (List UInt8)) :=
  cond (decide (t48_5 < (p0.2.2.2.2.length : Int)))
    ((at? p0.2.2.2.2 t48_5).bind fun x50_5 =>
    (impl_BindText x50_5).bind fun t54_5 =>
    (cat [10] t54_5).bind fun t55_5 =>
    (cat out4_10 t55_5).bind fun t56_5 =>
    some (.inl (t56_5, w64 (t48_5 + 1))))
    (some (.inr out4_10))
noncomputable def impl_PduText_l1_6 (p0 : Pdu) (out4_12 : List UInt8) (t48_6 : Int) : Option ((List UInt8 × Int) ⊕ (List UInt8)) :=
  cond (decide (t48_6 < (p0.2.2.2.2.length : Int)))
    ((at? p0.2.2.2.2 t48_6).bind fun x50_6 =>
    (impl_BindText x50_6).bind fun t54_6 =>
    (cat [10] t54_6).bind fun t55_6 =>
    (cat out4_12 t55_6).bind fun t56_6 =>
    some (.inl (t56_6, w64 (t48_6 + 1))))
    (some (.inr out4_12))
noncomputable def impl_PduText_l1_7 (p0 : Pdu) (out4_14 : List UInt8) (t48_7 : Int) : Option ((List UInt8 × Int) ⊕ (List UInt8)) :=
  cond (decide (t48_7 < (p0.2.2.2.2.length : Int)))
    ((at? p0.2.2.2.2 t48_7).bind fun x50_7 =>
    (impl_BindText x50_7).bind fun t54_7 =>
    (cat [10] t54_7).bind fun t55_7 =>
    (cat out4_14 t55_7).bind fun t56_7 =>
    some (.inl (t56_7, w64 (t48_7 + 1))))
    (some (.inr out4_14))
noncomputable def impl_PduText_l1_8 (p0 : Pdu) (out4_16 : List UInt8) (t48_8 : Int) : Option ((List UInt8 × Int) ⊕ (List UInt8)) :=
  cond (decide (t48_8 < (p0.2.2.2.2.length : Int)))
    ((at? p0.2.2.2.2 t48_8).bind fun x50_8 =>
    (impl_BindText x50_8).bind fun t54_8 =>
    (cat [10] t54_8).bind fun t55_8 =>
    (cat out4_16 t55_8).bind fun t56_8 =>
    some (.inl (t56_8, w64 (t48_8 + 1))))
    (some (.inr out4_16))
noncomputable def impl_PduText_l1_9 (p0 : Pdu) (out4_18 : List UInt8) (t48_9 : Int) : Option ((List UInt8 × Int) ⊕ (List UInt8)) :=
  cond (decide (t48_9 < (p0.2.2.2.2.length : Int)))
    ((at? p0.2.2.2.2 t48_9).bind fun x50_9 =>
    (impl_BindText x50_9).bind fun t54_9 =>
    (cat [10] t54_9).bind fun t55_9 =>
    (cat out4_18 t55_9).bind fun t56_9 =>
    some (.inl (t56_9, w64 (t48_9 + 1))))
    (some (.inr out4_18))
noncomputable def impl_PduText (p0 : Pdu) : Option (List UInt8) :=
  (impl_PduOk p0).bind fun t8 =>
  cond (!t8)
    (some [])
    (cond (p0.1 == 160)
      ((cat [103, 101, 116] [32]).bind fun t21 =>
      (libItoa p0.2.1).bind fun t24 =>
      (cat t21 t24).bind fun t25 =>
      (cond (p0.1 == 162) (some true) (some (p0.1 == 165))).bind fun t33 =>
      cond t33
        ((libItoa p0.2.2.1).bind fun t37 =>
        (cat [32] t37).bind fun t38 =>
        (cat t38 [32]).bind fun t39 =>
        (libItoa p0.2.2.2.1).bind fun t42 =>
        (cat t39 t42).bind fun t43 =>
        (cat t25 t43).bind fun t44 =>
        (loop (fun z => impl_PduText_l1 p0 z.1 z.2) (t44, 0)).bind fun d =>
        some d)
        ((loop (fun z => impl_PduText_l1_1 p0 z.1 z.2) (t25, 0)).bind fun d_1 =>
        some d_1))
      (cond (p0.1 == 161)
        ((cat [110, 101, 120, 116] [32]).bind fun t21_1 =>
        (libItoa p0.2.1).bind fun t24_1 =>
        (cat t21_1 t24_1).bind fun t25_1 =>
        (cond (p0.1 == 162) (some true) (some (p0.1 == 165))).bind fun t33_1 =>
        cond t33_1
          ((libItoa p0.2.2.1).bind fun t37_1 =>
          (cat [32] t37_1).bind fun t38_1 =>
          (cat t38_1 [32]).bind fun t39_1 =>
          (libItoa p0.2.2.2.1).bind fun t42_1 =>
          (cat t39_1 t42_1).bind fun t43_1 =>
          (cat t25_1 t43_1).bind fun t44_1 =>
          (loop (fun z => impl_PduText_l1_2 p0 z.1 z.2) (t44_1, 0)).bind fun d_2 =>
          some d_2)
          ((loop (fun z => impl_PduText_l1_3 p0 z.1 z.2) (t25_1, 0)).bind fun d_3 =>
          some d_3))
        (cond (p0.1 == 162)
          (let word3 := [97, 110, 115, 119, 101, 114]
          (cat word3 [32]).bind fun t21_2 =>
          (libItoa p0.2.1).bind fun t24_2 =>
          (cat t21_2 t24_2).bind fun t25_2 =>
          (cond (p0.1 == 162) (some true) (some (p0.1 == 165))).bind fun t33_2 =>
          cond t33_2
            ((libItoa p0.2.2.1).bind fun t37_2 =>
            (cat [32] t37_2).bind fun t38_2 =>
            (cat t38_2 [32]).bind fun t39_2 =>
            (libItoa p0.2.2.2.1).bind fun t42_2 =>
            (cat t39_2 t42_2).bind fun t43_2 =>
            (cat t25_2 t43_2).bind fun t44_2 =>
            (loop (fun z => impl_PduText_l1_4 p0 z.1 z.2) (t44_2, 0)).bind fun d_4 =>
            some d_4)
            ((loop (fun z => impl_PduText_l1_5 p0 z.1 z.2) (t25_2, 0)).bind fun d_5 =>
            some d_5))
          (cond (p0.1 == 163)
            ((cat [115, 101, 116] [32]).bind fun t21_3 =>
            (libItoa p0.2.1).bind fun t24_3 =>
            (cat t21_3 t24_3).bind fun t25_3 =>
            (cond (p0.1 == 162) (some true) (some (p0.1 == 165))).bind fun t33_3 =>
            cond t33_3
              ((libItoa p0.2.2.1).bind fun t37_3 =>
              (cat [32] t37_3).bind fun t38_3 =>
              (cat t38_3 [32]).bind fun t39_3 =>
              (libItoa p0.2.2.2.1).bind fun t42_3 =>
              (cat t39_3 t42_3).bind fun t43_3 =>
              (cat t25_3 t43_3).bind fun t44_3 =>
              (loop (fun z => impl_PduText_l1_6 p0 z.1 z.2) (t44_3, 0)).bind fun d_6 =>
              some d_6)
              ((loop (fun z => impl_PduText_l1_7 p0 z.1 z.2) (t25_3, 0)).bind fun d_7 =>
              some d_7))
            ((cat [98, 117, 108, 107] [32]).bind fun t21_4 =>
            (libItoa p0.2.1).bind fun t24_4 =>
            (cat t21_4 t24_4).bind fun t25_4 =>
            (cond (p0.1 == 162) (some true) (some (p0.1 == 165))).bind fun t33_4 =>
            cond t33_4
              ((libItoa p0.2.2.1).bind fun t37_4 =>
              (cat [32] t37_4).bind fun t38_4 =>
              (cat t38_4 [32]).bind fun t39_4 =>
              (libItoa p0.2.2.2.1).bind fun t42_4 =>
              (cat t39_4 t42_4).bind fun t43_4 =>
              (cat t25_4 t43_4).bind fun t44_4 =>
              (loop (fun z => impl_PduText_l1_8 p0 z.1 z.2) (t44_4, 0)).bind fun d_8 =>
              some d_8)
              ((loop (fun z => impl_PduText_l1_9 p0 z.1 z.2) (t25_4, 0)).bind fun d_9 =>
              some d_9))))))
noncomputable def F_impl_PduText : Fn := ⟨[.val true cPdu false], [.val false (.one .str) (some true)], fun a => impl_PduText a⟩
def a_impl_PduText : List (Nat × LoopAnn) := [(1, ⟨⟨[(4, false, [.dat .str]), (48, false, [.dat (.int .i64)])], []⟩,
    ⟨[(4, false, [.dat .str])], []⟩, none⟩)]
theorem e_impl_PduText : fnDen ⟨tis, fns_20, [], false⟩ a_impl_PduText Tryz.f6 (codeOf Tryz.f6) [.val true cPdu false] [.val false (.one .str) (some true)] = fun a => impl_PduText a := by kernel_rfl
theorem m_impl_PduText : Meets Tryz.prog 6 F_impl_PduText := by
  have h := meets_of (ann := a_impl_PduText) (ps := [.val true cPdu false]) (rs := [.val false (.one .str) (some true)]) g_20 mixed Tryz.func6 (by kernel_rfl) (by kernel_rfl : Tryz.f6.body = some (codeOf Tryz.f6))
  rw [e_impl_PduText] at h
  exact h
noncomputable def fns_6 : List (FuncId × Fn) := (6, F_impl_PduText) :: fns_20
theorem g_6 : Good Tryz.prog ⟨tis, fns_6, [], false⟩ := g_20.cons m_impl_PduText
noncomputable def spec_l1In (x0 : Int) (least1 : Int) (most2 : Int) : Option Bool :=
  (cond (decide (x0 ≥ least1)) (some (decide (x0 ≤ most2))) (some false)).bind fun t14 =>
  some t14
noncomputable def F_spec_l1In : Fn := ⟨[.val false (.one (.int .i64)) false, .val false (.one (.int .i64)) false, .val false (.one (.int .i64)) false], [.val false (.one .bool) (some true)], fun a => spec_l1In a.1 a.2.1 a.2.2⟩
def a_spec_l1In : List (Nat × LoopAnn) := []
theorem e_spec_l1In : fnDen ⟨tis, fns_6, [], false⟩ a_spec_l1In Tryz.f32 (codeOf Tryz.f32) [.val false (.one (.int .i64)) false, .val false (.one (.int .i64)) false, .val false (.one (.int .i64)) false] [.val false (.one .bool) (some true)] = fun a => spec_l1In a.1 a.2.1 a.2.2 := by kernel_rfl
theorem m_spec_l1In : Meets Tryz.prog 32 F_spec_l1In := by
  have h := meets_of (ann := a_spec_l1In) (ps := [.val false (.one (.int .i64)) false, .val false (.one (.int .i64)) false, .val false (.one (.int .i64)) false]) (rs := [.val false (.one .bool) (some true)]) g_6 mixed Tryz.func32 (by kernel_rfl) (by kernel_rfl : Tryz.f32.body = some (codeOf Tryz.f32))
  rw [e_spec_l1In] at h
  exact h
noncomputable def fns_32 : List (FuncId × Fn) := (32, F_spec_l1In) :: fns_6
theorem g_32 : Good Tryz.prog ⟨tis, fns_32, [], false⟩ := g_6.cons m_spec_l1In
noncomputable def spec_VtabNew_l0 (ports0 : Int) (i5 : Int) (b1 : List Int) : Option ((Int × List Int) ⊕ (List Int)) :=
  cond (decide (i5 < ports0))
    ((app b1 ([1] : List Int)).bind fun zs27 =>
    some (.inl (w64 (i5 + 1), zs27)))
    (some (.inr b1))
noncomputable def spec_VtabNew (ports0 : Int) : Option Vtab :=
  (spec_l1In ports0 1 6).bind fun t7 =>
  cond (!t7)
    (some ([], []))
    ((shl .i64 1 (IntKind.u64.wrap (ports0))).bind fun t12 =>
    (loop (fun z => spec_VtabNew_l0 ports0 z.1 z.2) (0, [])).bind fun d =>
    some ([(1, w64 (t12 - 1), w64 (t12 - 1))], d))
noncomputable def F_spec_VtabNew : Fn := ⟨[.val false (.one (.int .i64)) false], [.val true cVtab (some true)], fun a => spec_VtabNew a⟩
def a_spec_VtabNew : List (Nat × LoopAnn) := [(0, ⟨⟨[(5, false, [.dat (.int .i64)])], [(1054720, .box [.same 1052672, .own 1000000000]), (1000000000, .root (.one (.int .i64)) true)]⟩,
    ⟨[], [(1054720, .box [.same 1052672, .own 1000000300]), (1000000300, .root (.one (.int .i64)) true)]⟩, none⟩)]
theorem e_spec_VtabNew : fnDen ⟨tis, fns_32, [], false⟩ a_spec_VtabNew Tryz.f85 (codeOf Tryz.f85) [.val false (.one (.int .i64)) false] [.val true cVtab (some true)] = fun a => spec_VtabNew a := by kernel_rfl
theorem m_spec_VtabNew : Meets Tryz.prog 85 F_spec_VtabNew := by
  have h := meets_of (ann := a_spec_VtabNew) (ps := [.val false (.one (.int .i64)) false]) (rs := [.val true cVtab (some true)]) g_32 mixed Tryz.func85 (by kernel_rfl) (by kernel_rfl : Tryz.f85.body = some (codeOf Tryz.f85))
  rw [e_spec_VtabNew] at h
  exact h
noncomputable def fns_85 : List (FuncId × Fn) := (85, F_spec_VtabNew) :: fns_32
theorem g_85 : Good Tryz.prog ⟨tis, fns_85, [], false⟩ := g_32.cons m_spec_VtabNew
noncomputable def spec_BridgeNew_l0 (ports1 : Int) (i6 : Int) (b0 : Int) (b1 : List UInt8) (b6 : Int) (b7 : Int) (b8 : Int) (b9 : Int) (b10 : Int) (b2 : List Pt) (b3 : List Fent) : Option ((Int × Int × List UInt8 × Int × Int × Int × Int × Int × List Pt × List Fent) ⊕ (Int × List UInt8 × Int × Int × Int × Int × Int × List Pt × List Fent)) :=
  cond (decide (i6 < ports1))
    ((app b2 [(false, 1, false, 0, 0, 0, 0, 0)]).bind fun zs29 =>
    some (.inl (w64 (i6 + 1), b0, b1, b6, b7, b8, b9, b10, zs29, b3)))
    (some (.inr (b0, b1, b6, b7, b8, b9, b10, b2, b3)))
noncomputable def spec_BridgeNew (id0 : Int) (ports1 : Int) : Option Bridge :=
  (spec_l1In id0 1 99).bind fun t8 =>
  (cond (!t8)
    (some true)
    ((spec_l1In ports1 1 6).bind fun t12 =>
    some (!t12))).bind fun t14 =>
  cond t14
    (some (0, [], [], [], [], [], 0, 0, 0, 0, 0))
    ((spec_VtabNew ports1).bind fun t18 =>
    (loop (fun z => spec_BridgeNew_l0 ports1 z.1 z.2.1 z.2.2.1 z.2.2.2.1 z.2.2.2.2.1 z.2.2.2.2.2.1 z.2.2.2.2.2.2.1 z.2.2.2.2.2.2.2.1 z.2.2.2.2.2.2.2.2.1 z.2.2.2.2.2.2.2.2.2) (0, id0, [], 0, 0, 0, 0, 0, [], [])).bind fun d =>
    some (d.1, d.2.1, d.2.2.2.2.2.2.2.1, d.2.2.2.2.2.2.2.2, t18.1, t18.2, d.2.2.1, d.2.2.2.1, d.2.2.2.2.1, d.2.2.2.2.2.1, d.2.2.2.2.2.2.1))
noncomputable def F_spec_BridgeNew : Fn := ⟨[.val false (.one (.int .i64)) false, .val false (.one (.int .i64)) false], [.val true cBridge (some true)], fun a => spec_BridgeNew a.1 a.2⟩
def a_spec_BridgeNew : List (Nat × LoopAnn) := [(0, ⟨⟨[(6, false, [.dat (.int .i64)])], [(791552, .box [.dat (.int .i64), .dat .str, .own 1000000000, .own 1000000001, .same 789504, .same 789505, .dat (.int .i64), .dat (.int .i64), .dat (.int .i64), .dat (.int .i64), .dat (.int .i64)]), (1000000000, .root cPt true), (1000000001, .root cFent true)]⟩,
    ⟨[], [(791552, .box [.dat (.int .i64), .dat .str, .own 1000000300, .own 1000000301, .same 789504, .same 789505, .dat (.int .i64), .dat (.int .i64), .dat (.int .i64), .dat (.int .i64), .dat (.int .i64)]), (1000000300, .root cPt true), (1000000301, .root cFent true)]⟩, none⟩)]
theorem e_spec_BridgeNew : fnDen ⟨tis, fns_85, [], false⟩ a_spec_BridgeNew Tryz.f65 (codeOf Tryz.f65) [.val false (.one (.int .i64)) false, .val false (.one (.int .i64)) false] [.val true cBridge (some true)] = fun a => spec_BridgeNew a.1 a.2 := by kernel_rfl
theorem m_spec_BridgeNew : Meets Tryz.prog 65 F_spec_BridgeNew := by
  have h := meets_of (ann := a_spec_BridgeNew) (ps := [.val false (.one (.int .i64)) false, .val false (.one (.int .i64)) false]) (rs := [.val true cBridge (some true)]) g_85 mixed Tryz.func65 (by kernel_rfl) (by kernel_rfl : Tryz.f65.body = some (codeOf Tryz.f65))
  rw [e_spec_BridgeNew] at h
  exact h
noncomputable def fns_65 : List (FuncId × Fn) := (65, F_spec_BridgeNew) :: fns_85
theorem g_65 : Good Tryz.prog ⟨tis, fns_65, [], false⟩ := g_85.cons m_spec_BridgeNew
noncomputable def spec_l1Once (c0 : L1Cur) (n1 : Int) : Option (L1Cur × Bool) :=
  (spec_l1Below c0 n1).bind fun t7 =>
  some (t7.1, t7.2 == 0)
noncomputable def F_spec_l1Once : Fn := ⟨[.ptr cL1Cur none, .val false (.one (.int .i64)) false], [.val false (.one .bool) (some true)], fun a => spec_l1Once a.1 a.2⟩
def a_spec_l1Once : List (Nat × LoopAnn) := []
theorem e_spec_l1Once : fnDen ⟨tis, fns_65, [], false⟩ a_spec_l1Once Tryz.f70 (codeOf Tryz.f70) [.ptr cL1Cur none, .val false (.one (.int .i64)) false] [.val false (.one .bool) (some true)] = fun a => spec_l1Once a.1 a.2 := by kernel_rfl
theorem m_spec_l1Once : Meets Tryz.prog 70 F_spec_l1Once := by
  have h := meets_of (ann := a_spec_l1Once) (ps := [.ptr cL1Cur none, .val false (.one (.int .i64)) false]) (rs := [.val false (.one .bool) (some true)]) g_65 mixed Tryz.func70 (by kernel_rfl) (by kernel_rfl : Tryz.f70.body = some (codeOf Tryz.f70))
  rw [e_spec_l1Once] at h
  exact h
noncomputable def fns_70 : List (FuncId × Fn) := (70, F_spec_l1Once) :: fns_65
theorem g_70 : Good Tryz.prog ⟨tis, fns_70, [], false⟩ := g_65.cons m_spec_l1Once
noncomputable def spec_l7Draw (c0 : L1Cur) : Option (L1Cur × Vec) :=
  (spec_l1Below c0 5).bind fun t4 =>
  (spec_l1Int t4.1 ([0, 1, 2, 5, 10, 100] : List Int)).bind fun t8 =>
  (spec_l1Int t8.1 ([0, 1, 2, 9, 10] : List Int)).bind fun t11 =>
  (spec_l1Below t11.1 5).bind fun t13 =>
  (spec_l1Below t13.1 4).bind fun t16 =>
  some (t16.1, (w64 (1 + t4.2), t8.2, t11.2, w64 (1 + t13.2), t16.2))
noncomputable def F_spec_l7Draw : Fn := ⟨[.ptr cL1Cur none], [.val true cVec (some true)], fun a => spec_l7Draw a⟩
def a_spec_l7Draw : List (Nat × LoopAnn) := []
theorem e_spec_l7Draw : fnDen ⟨tis, fns_70, [], false⟩ a_spec_l7Draw Tryz.f86 (codeOf Tryz.f86) [.ptr cL1Cur none] [.val true cVec (some true)] = fun a => spec_l7Draw a := by kernel_rfl
theorem m_spec_l7Draw : Meets Tryz.prog 86 F_spec_l7Draw := by
  have h := meets_of (ann := a_spec_l7Draw) (ps := [.ptr cL1Cur none]) (rs := [.val true cVec (some true)]) g_70 mixed Tryz.func86 (by kernel_rfl) (by kernel_rfl : Tryz.f86.body = some (codeOf Tryz.f86))
  rw [e_spec_l7Draw] at h
  exact h
noncomputable def fns_86 : List (FuncId × Fn) := (86, F_spec_l7Draw) :: fns_70
theorem g_86 : Good Tryz.prog ⟨tis, fns_86, [], false⟩ := g_70.cons m_spec_l7Draw
noncomputable def spec_l10Draw_l0 (n1 : Int) (i6 : Int) (b0 : List Int) (b1 : Int) (b2 : Int) (out5 : List Pt) : Option ((Int × List Int × Int × Int × List Pt) ⊕ (List Int × Int × Int × List Pt)) :=
  cond (decide (i6 < n1))
    ((spec_l1Once (b0, b1, b2) 4).bind fun t15 =>
    (spec_l1Int t15.1 ([1, 1, 2, 5, 10] : List Int)).bind fun t19 =>
    cond (!t15.2)
      ((spec_l1Once t19.1 4).bind fun t25 =>
      cond (!t25.2)
        ((spec_l7Draw t25.1).bind fun t30 =>
        (app out5 [(!t15.2, t19.2, true, t30.2.1, t30.2.2.1, t30.2.2.2.1, t30.2.2.2.2.1, t30.2.2.2.2.2)]).bind fun zs35 =>
        some (.inl (w64 (i6 + 1), t30.1.1, t30.1.2.1, t30.1.2.2, zs35)))
        ((app out5 [(!t15.2, t19.2, false, 0, 0, 0, 0, 0)]).bind fun zs35_1 =>
        some (.inl (w64 (i6 + 1), t25.1.1, t25.1.2.1, t25.1.2.2, zs35_1))))
      ((app out5 [(!t15.2, t19.2, false, 0, 0, 0, 0, 0)]).bind fun zs35_2 =>
      some (.inl (w64 (i6 + 1), t19.1.1, t19.1.2.1, t19.1.2.2, zs35_2))))
    (some (.inr (b0, b1, b2, out5)))
noncomputable def spec_l10Draw (c0 : L1Cur) (n1 : Int) : Option (L1Cur × List Pt) :=
  (loop (fun z => spec_l10Draw_l0 n1 z.1 z.2.1 z.2.2.1 z.2.2.2.1 z.2.2.2.2) (0, c0.1, c0.2.1, c0.2.2, ([] : List Pt))).bind fun d =>
  some ((d.1, d.2.1, d.2.2.1), d.2.2.2)
noncomputable def F_spec_l10Draw : Fn := ⟨[.ptr cL1Cur none, .val false (.one (.int .i64)) false], [.val false (.one (.sl cPt)) (some true)], fun a => spec_l10Draw a.1 a.2⟩
def a_spec_l10Draw : List (Nat × LoopAnn) := [(0, ⟨⟨[(5, false, [.own 1000000000]), (6, false, [.dat (.int .i64)]), (24, false, [.undef]), (25, false, [.undef]), (26, false, [.undef])], [(1, .box [.dat (.sl (.one (.int .u8))), .dat (.int .i64), .dat (.int .i64)]), (1000000000, .root cPt true)]⟩,
    ⟨[(5, false, [.own 1000000300])], [(1, .box [.dat (.sl (.one (.int .u8))), .dat (.int .i64), .dat (.int .i64)]), (1000000300, .root cPt true)]⟩, none⟩)]
theorem e_spec_l10Draw : fnDen ⟨tis, fns_86, [], false⟩ a_spec_l10Draw Tryz.f66 (codeOf Tryz.f66) [.ptr cL1Cur none, .val false (.one (.int .i64)) false] [.val false (.one (.sl cPt)) (some true)] = fun a => spec_l10Draw a.1 a.2 := by kernel_rfl
theorem m_spec_l10Draw : Meets Tryz.prog 66 F_spec_l10Draw := by
  have h := meets_of (ann := a_spec_l10Draw) (ps := [.ptr cL1Cur none, .val false (.one (.int .i64)) false]) (rs := [.val false (.one (.sl cPt)) (some true)]) g_86 mixed Tryz.func66 (by kernel_rfl) (by kernel_rfl : Tryz.f66.body = some (codeOf Tryz.f66))
  rw [e_spec_l10Draw] at h
  exact h
noncomputable def fns_66 : List (FuncId × Fn) := (66, F_spec_l10Draw) :: fns_86
theorem g_66 : Good Tryz.prog ⟨tis, fns_66, [], false⟩ := g_86.cons m_spec_l10Draw
noncomputable def spec_RowAt_l0 (v0 : Vtab) (id1 : Int) (i5 : Int) : Option (Int ⊕ (Unit ⊕ Int)) :=
  cond (decide (i5 < (v0.1.length : Int)))
    ((at? v0.1 i5).bind fun x16 =>
    cond (x16.1 == id1) (some (.inr (.inr i5))) (some (.inl (w64 (i5 + 1)))))
    (some (.inr (.inl ())))
noncomputable def spec_RowAt (v0 : Vtab) (id1 : Int) : Option Int :=
  (loop (fun z => spec_RowAt_l0 v0 id1 z) 0).bind (Sum.elim (fun d =>
    some (-1)) (fun r => some r))
noncomputable def F_spec_RowAt : Fn := ⟨[.val true cVtab false, .val false (.one (.int .i64)) false], [.val false (.one (.int .i64)) (some true)], fun a => spec_RowAt a.1 a.2⟩
def a_spec_RowAt : List (Nat × LoopAnn) := [(0, ⟨⟨[(5, false, [.dat (.int .i64)])], []⟩,
    ⟨[], []⟩, some ⟨[(4, false, [.dat (.int .i64)])], []⟩⟩)]
theorem e_spec_RowAt : fnDen ⟨tis, fns_66, [], false⟩ a_spec_RowAt Tryz.f109 (codeOf Tryz.f109) [.val true cVtab false, .val false (.one (.int .i64)) false] [.val false (.one (.int .i64)) (some true)] = fun a => spec_RowAt a.1 a.2 := by kernel_rfl
theorem m_spec_RowAt : Meets Tryz.prog 109 F_spec_RowAt := by
  have h := meets_of (ann := a_spec_RowAt) (ps := [.val true cVtab false, .val false (.one (.int .i64)) false]) (rs := [.val false (.one (.int .i64)) (some true)]) g_66 mixed Tryz.func109 (by kernel_rfl) (by kernel_rfl : Tryz.f109.body = some (codeOf Tryz.f109))
  rw [e_spec_RowAt] at h
  exact h
noncomputable def fns_109 : List (FuncId × Fn) := (109, F_spec_RowAt) :: fns_66
theorem g_109 : Good Tryz.prog ⟨tis, fns_109, [], false⟩ := g_66.cons m_spec_RowAt
noncomputable def spec_VtabOk_l0 (p0 : Vtab) (t27 : Int) (t6 : Int) : Option (Int ⊕ (Unit ⊕ Bool)) :=
  cond (decide (t6 < (p0.1.length : Int)))
    ((at? p0.1 t6).bind fun x39 =>
    (spec_l1In x39.1 1 99).bind fun t43 =>
    (cond (!t43)
      (some true)
      ((spec_l1In x39.2.1 0 (w64 (t27 - 1))).bind fun t49 =>
      some (!t49))).bind fun t51 =>
    (cond t51
      (some true)
      ((spec_l1In x39.2.2 0 (w64 (t27 - 1))).bind fun t56 =>
      some (!t56))).bind fun t58 =>
    (cond t58 (some true) (some ((band .i64 x39.2.2 x39.2.1) != x39.2.2))).bind fun t68 =>
    (cond t68
      (some true)
      ((cond (decide (t6 > 0))
        ((at? p0.1 (w64 (t6 - 1))).bind fun x77 =>
        some (decide (x77.1 ≥ x39.1)))
        (some false)).bind fun t83 =>
      some t83)).bind fun t84 =>
    cond t84 (some (.inr (.inr false))) (some (.inl (w64 (t6 + 1)))))
    (some (.inr (.inl ())))
noncomputable def spec_VtabOk_l2 (p0 : Vtab) (t8 : Int) : Option (Int ⊕ (Unit ⊕ Bool)) :=
  cond (decide (t8 < (p0.2.length : Int)))
    ((at? p0.2 t8).bind fun x96 =>
    (spec_RowAt p0 x96).bind fun t98 =>
    cond (decide (t98 < 0)) (some (.inr (.inr false))) (some (.inl (w64 (t8 + 1)))))
    (some (.inr (.inl ())))
noncomputable def spec_VtabOk (p0 : Vtab) (i1 : Int) : Option Bool :=
  (spec_l1In i1 1 6).bind fun t10 =>
  (cond (!t10) (some true) (some ((p0.2.length : Int) != i1))).bind fun t18 =>
  (cond t18 (some true) (some (decide ((p0.1.length : Int) > 6)))).bind fun t24 =>
  cond t24
    (some false)
    ((shl .i64 1 (IntKind.u64.wrap (i1))).bind fun t27 =>
    (loop (fun z => spec_VtabOk_l0 p0 t27 z) 0).bind (Sum.elim (fun d =>
      (loop (fun z => spec_VtabOk_l2 p0 z) 0).bind (Sum.elim (fun d_1 =>
        some true) (fun r => some r))) (fun r_1 => some r_1)))
noncomputable def F_spec_VtabOk : Fn := ⟨[.val true cVtab false, .val false (.one (.int .i64)) false], [.val false (.one .bool) (some true)], fun a => spec_VtabOk a.1 a.2⟩
def a_spec_VtabOk : List (Nat × LoopAnn) := [(0, ⟨⟨[(6, false, [.dat (.int .i64)]), (46, false, [.undef]), (47, false, [.undef]), (48, false, [.undef]), (49, false, [.undef]), (50, false, [.undef]), (53, false, [.undef]), (54, false, [.undef]), (55, false, [.undef]), (56, false, [.undef]), (57, false, [.undef]), (60, false, [.undef]), (61, false, [.undef]), (62, false, [.undef]), (63, false, [.undef]), (64, false, [.undef]), (65, false, [.undef]), (66, false, [.undef]), (67, false, [.undef]), (70, false, [.undef]), (71, false, [.undef]), (72, false, [.undef]), (73, false, [.undef]), (74, false, [.undef]), (75, false, [.undef]), (76, false, [.undef]), (77, false, [.undef]), (78, false, [.undef]), (79, false, [.undef]), (80, false, [.undef]), (81, false, [.undef]), (82, false, [.undef]), (83, false, [.undef])], []⟩,
    ⟨[], []⟩, some ⟨[(4, false, [.dat .bool])], []⟩⟩),
  (2, ⟨⟨[(8, false, [.dat (.int .i64)])], []⟩,
    ⟨[], []⟩, some ⟨[(4, false, [.dat .bool])], []⟩⟩)]
theorem e_spec_VtabOk : fnDen ⟨tis, fns_109, [], false⟩ a_spec_VtabOk Tryz.f106 (codeOf Tryz.f106) [.val true cVtab false, .val false (.one (.int .i64)) false] [.val false (.one .bool) (some true)] = fun a => spec_VtabOk a.1 a.2 := by kernel_rfl
theorem m_spec_VtabOk : Meets Tryz.prog 106 F_spec_VtabOk := by
  have h := meets_of (ann := a_spec_VtabOk) (ps := [.val true cVtab false, .val false (.one (.int .i64)) false]) (rs := [.val false (.one .bool) (some true)]) g_109 mixed Tryz.func106 (by kernel_rfl) (by kernel_rfl : Tryz.f106.body = some (codeOf Tryz.f106))
  rw [e_spec_VtabOk] at h
  exact h
noncomputable def fns_106 : List (FuncId × Fn) := (106, F_spec_VtabOk) :: fns_109
theorem g_106 : Good Tryz.prog ⟨tis, fns_106, [], false⟩ := g_109.cons m_spec_VtabOk
noncomputable def spec_l9Copy (v0 : Vtab) : Option Vtab :=
  (app ([] : List Vrow) v0.1).bind fun zs6 =>
  (app ([] : List Int) v0.2).bind fun zs10 =>
  some (zs6, zs10)
noncomputable def F_spec_l9Copy : Fn := ⟨[.val true cVtab false], [.val true cVtab (some true)], fun a => spec_l9Copy a⟩
def a_spec_l9Copy : List (Nat × LoopAnn) := []
theorem e_spec_l9Copy : fnDen ⟨tis, fns_106, [], false⟩ a_spec_l9Copy Tryz.f107 (codeOf Tryz.f107) [.val true cVtab false] [.val true cVtab (some true)] = fun a => spec_l9Copy a := by kernel_rfl
theorem m_spec_l9Copy : Meets Tryz.prog 107 F_spec_l9Copy := by
  have h := meets_of (ann := a_spec_l9Copy) (ps := [.val true cVtab false]) (rs := [.val true cVtab (some true)]) g_106 mixed Tryz.func107 (by kernel_rfl) (by kernel_rfl : Tryz.f107.body = some (codeOf Tryz.f107))
  rw [e_spec_l9Copy] at h
  exact h
noncomputable def fns_107 : List (FuncId × Fn) := (107, F_spec_l9Copy) :: fns_106
theorem g_107 : Good Tryz.prog ⟨tis, fns_107, [], false⟩ := g_106.cons m_spec_l9Copy
noncomputable def spec_l9Or (x0 : Vtab) (v1 : Vtab) : Option (Vtab × Bool) :=
  (spec_VtabOk x0 (v1.2.length : Int)).bind fun t10 =>
  cond (!t10)
    ((spec_l9Copy v1).bind fun t13 =>
    some (t13, false))
    (some (x0, true))
noncomputable def F_spec_l9Or : Fn := ⟨[.val true cVtab true, .val true cVtab false], [.val true cVtab (some true), .val false (.one .bool) (some true)], fun a => spec_l9Or a.1 a.2⟩
def a_spec_l9Or : List (Nat × LoopAnn) := []
theorem e_spec_l9Or : fnDen ⟨tis, fns_107, [], false⟩ a_spec_l9Or Tryz.f108 (codeOf Tryz.f108) [.val true cVtab true, .val true cVtab false] [.val true cVtab (some true), .val false (.one .bool) (some true)] = fun a => spec_l9Or a.1 a.2 := by kernel_rfl
theorem m_spec_l9Or : Meets Tryz.prog 108 F_spec_l9Or := by
  have h := meets_of (ann := a_spec_l9Or) (ps := [.val true cVtab true, .val true cVtab false]) (rs := [.val true cVtab (some true), .val false (.one .bool) (some true)]) g_107 mixed Tryz.func108 (by kernel_rfl) (by kernel_rfl : Tryz.f108.body = some (codeOf Tryz.f108))
  rw [e_spec_l9Or] at h
  exact h
noncomputable def fns_108 : List (FuncId × Fn) := (108, F_spec_l9Or) :: fns_107
theorem g_108 : Good Tryz.prog ⟨tis, fns_108, [], false⟩ := g_107.cons m_spec_l9Or
noncomputable def spec_SetPvid (v0 : Vtab) (port1 : Int) (id2 : Int) : Option (Vtab × Bool) :=
  (spec_VtabOk v0 (v0.2.length : Int)).bind fun t13 =>
  (cond (!t13)
    (some true)
    ((spec_l1In port1 0 (w64 ((v0.2.length : Int) - 1))).bind fun t21 =>
    some (!t21))).bind fun t23 =>
  cond t23
    ((spec_l9Copy v0).bind fun t25 =>
    some (t25, false))
    ((spec_l9Copy v0).bind fun t27 =>
    (ix t27.2.length port1).bind fun j32 =>
    (t27.2[j32]?).bind fun x =>
    (spec_l9Or (t27.1, t27.2.set j32 id2) v0).bind fun t35 =>
    some t35)
noncomputable def F_spec_SetPvid : Fn := ⟨[.val true cVtab false, .val false (.one (.int .i64)) false, .val false (.one (.int .i64)) false], [.val true cVtab (some true), .val false (.one .bool) (some true)], fun a => spec_SetPvid a.1 a.2.1 a.2.2⟩
def a_spec_SetPvid : List (Nat × LoopAnn) := []
theorem e_spec_SetPvid : fnDen ⟨tis, fns_108, [], false⟩ a_spec_SetPvid Tryz.f87 (codeOf Tryz.f87) [.val true cVtab false, .val false (.one (.int .i64)) false, .val false (.one (.int .i64)) false] [.val true cVtab (some true), .val false (.one .bool) (some true)] = fun a => spec_SetPvid a.1 a.2.1 a.2.2 := by kernel_rfl
theorem m_spec_SetPvid : Meets Tryz.prog 87 F_spec_SetPvid := by
  have h := meets_of (ann := a_spec_SetPvid) (ps := [.val true cVtab false, .val false (.one (.int .i64)) false, .val false (.one (.int .i64)) false]) (rs := [.val true cVtab (some true), .val false (.one .bool) (some true)]) g_108 mixed Tryz.func87 (by kernel_rfl) (by kernel_rfl : Tryz.f87.body = some (codeOf Tryz.f87))
  rw [e_spec_SetPvid] at h
  exact h
noncomputable def fns_87 : List (FuncId × Fn) := (87, F_spec_SetPvid) :: fns_108
theorem g_87 : Good Tryz.prog ⟨tis, fns_87, [], false⟩ := g_108.cons m_spec_SetPvid
noncomputable def spec_DropRow (v0 : Vtab) (id1 : Int) : Option (Vtab × Bool) :=
  (spec_RowAt v0 id1).bind fun t10 =>
  (spec_VtabOk v0 (v0.2.length : Int)).bind fun t15 =>
  (cond (!t15) (some true) (some (decide (t10 < 0)))).bind fun t20 =>
  cond t20
    ((spec_l9Copy v0).bind fun t22 =>
    some (t22, false))
    ((spec_l9Copy v0).bind fun t24 =>
    (cut v0.1 0 t10).bind fun t29 =>
    (app ([] : List Vrow) t29).bind fun zs30 =>
    (cut v0.1 (w64 (t10 + 1)) (v0.1.length : Int)).bind fun t35 =>
    (app zs30 t35).bind fun zs36 =>
    (spec_l9Or (zs36, t24.2) v0).bind fun t40 =>
    some t40)
noncomputable def F_spec_DropRow : Fn := ⟨[.val true cVtab false, .val false (.one (.int .i64)) false], [.val true cVtab (some true), .val false (.one .bool) (some true)], fun a => spec_DropRow a.1 a.2⟩
def a_spec_DropRow : List (Nat × LoopAnn) := []
theorem e_spec_DropRow : fnDen ⟨tis, fns_87, [], false⟩ a_spec_DropRow Tryz.f88 (codeOf Tryz.f88) [.val true cVtab false, .val false (.one (.int .i64)) false] [.val true cVtab (some true), .val false (.one .bool) (some true)] = fun a => spec_DropRow a.1 a.2 := by kernel_rfl
theorem m_spec_DropRow : Meets Tryz.prog 88 F_spec_DropRow := by
  have h := meets_of (ann := a_spec_DropRow) (ps := [.val true cVtab false, .val false (.one (.int .i64)) false]) (rs := [.val true cVtab (some true), .val false (.one .bool) (some true)]) g_87 mixed Tryz.func88 (by kernel_rfl) (by kernel_rfl : Tryz.f88.body = some (codeOf Tryz.f88))
  rw [e_spec_DropRow] at h
  exact h
noncomputable def fns_88 : List (FuncId × Fn) := (88, F_spec_DropRow) :: fns_87
theorem g_88 : Good Tryz.prog ⟨tis, fns_88, [], false⟩ := g_87.cons m_spec_DropRow
noncomputable def spec_l9Row_l0 (p0 : Vtab) (i1 : Vrow) (t6 : Bool) (t7 : Int) (b0 : List Vrow) : Option ((Bool × Int × List Vrow) ⊕ (Bool × List Vrow)) :=
  cond (decide (t7 < (p0.1.length : Int)))
    ((cond (!t6)
      ((at? p0.1 t7).bind fun x26 =>
      some (decide (x26.1 ≥ i1.1)))
      (some false)).bind fun t32 =>
    cond t32
      ((app b0 [i1]).bind fun zs37 =>
      (at? p0.1 t7).bind fun x42 =>
      cond (x42.1 != i1.1)
        ((at? p0.1 t7).bind fun x53 =>
        (app zs37 [x53]).bind fun zs56 =>
        some (.inl (true, w64 (t7 + 1), zs56)))
        (some (.inl (true, w64 (t7 + 1), zs37))))
      ((at? p0.1 t7).bind fun x42_1 =>
      cond (x42_1.1 != i1.1)
        ((at? p0.1 t7).bind fun x53_1 =>
        (app b0 [x53_1]).bind fun zs56_1 =>
        some (.inl (t6, w64 (t7 + 1), zs56_1)))
        (some (.inl (t6, w64 (t7 + 1), b0)))))
    (some (.inr (t6, b0)))
noncomputable def spec_l9Row (p0 : Vtab) (i1 : Vrow) : Option Vtab :=
  (app ([] : List Int) p0.2).bind fun zs11 =>
  (loop (fun z => spec_l9Row_l0 p0 i1 z.1 z.2.1 z.2.2) (false, 0, [])).bind fun d =>
  cond (!d.1)
    ((app d.2 [i1]).bind fun zs64 =>
    some (zs64, zs11))
    (some (d.2, zs11))
noncomputable def F_spec_l9Row : Fn := ⟨[.val true cVtab false, .val true cVrow false], [.val true cVtab (some true)], fun a => spec_l9Row a.1 a.2⟩
def a_spec_l9Row : List (Nat × LoopAnn) := [(0, ⟨⟨[(6, false, [.dat .bool]), (7, false, [.dat (.int .i64)]), (23, false, [.undef]), (24, false, [.undef]), (25, false, [.undef]), (26, false, [.undef]), (27, false, [.undef]), (28, false, [.undef]), (29, false, [.undef]), (30, false, [.undef]), (31, false, [.undef])], [(268288, .box [.own 1000000000, .same 266240]), (1000000000, .root cVrow true)]⟩,
    ⟨[(6, false, [.dat .bool])], [(268288, .box [.own 1000000300, .same 266240]), (1000000300, .root cVrow true)]⟩, none⟩)]
theorem e_spec_l9Row : fnDen ⟨tis, fns_88, [], false⟩ a_spec_l9Row Tryz.f74 (codeOf Tryz.f74) [.val true cVtab false, .val true cVrow false] [.val true cVtab (some true)] = fun a => spec_l9Row a.1 a.2 := by kernel_rfl
theorem m_spec_l9Row : Meets Tryz.prog 74 F_spec_l9Row := by
  have h := meets_of (ann := a_spec_l9Row) (ps := [.val true cVtab false, .val true cVrow false]) (rs := [.val true cVtab (some true)]) g_88 mixed Tryz.func74 (by kernel_rfl) (by kernel_rfl : Tryz.f74.body = some (codeOf Tryz.f74))
  rw [e_spec_l9Row] at h
  exact h
noncomputable def fns_74 : List (FuncId × Fn) := (74, F_spec_l9Row) :: fns_88
theorem g_74 : Good Tryz.prog ⟨tis, fns_74, [], false⟩ := g_88.cons m_spec_l9Row
noncomputable def spec_PutRow (v0 : Vtab) (r1 : Vrow) : Option (Vtab × Bool) :=
  (spec_VtabOk v0 (v0.2.length : Int)).bind fun t10 =>
  cond (!t10)
    ((spec_l9Copy v0).bind fun t13 =>
    some (t13, false))
    ((spec_l9Row v0 r1).bind fun t16 =>
    (spec_l9Or t16 v0).bind fun t18 =>
    some t18)
noncomputable def F_spec_PutRow : Fn := ⟨[.val true cVtab false, .val true cVrow false], [.val true cVtab (some true), .val false (.one .bool) (some true)], fun a => spec_PutRow a.1 a.2⟩
def a_spec_PutRow : List (Nat × LoopAnn) := []
theorem e_spec_PutRow : fnDen ⟨tis, fns_74, [], false⟩ a_spec_PutRow Tryz.f89 (codeOf Tryz.f89) [.val true cVtab false, .val true cVrow false] [.val true cVtab (some true), .val false (.one .bool) (some true)] = fun a => spec_PutRow a.1 a.2 := by kernel_rfl
theorem m_spec_PutRow : Meets Tryz.prog 89 F_spec_PutRow := by
  have h := meets_of (ann := a_spec_PutRow) (ps := [.val true cVtab false, .val true cVrow false]) (rs := [.val true cVtab (some true), .val false (.one .bool) (some true)]) g_74 mixed Tryz.func89 (by kernel_rfl) (by kernel_rfl : Tryz.f89.body = some (codeOf Tryz.f89))
  rw [e_spec_PutRow] at h
  exact h
noncomputable def fns_89 : List (FuncId × Fn) := (89, F_spec_PutRow) :: fns_74
theorem g_89 : Good Tryz.prog ⟨tis, fns_89, [], false⟩ := g_74.cons m_spec_PutRow
noncomputable def spec_l9Row2 (c0 : L1Cur) (ports1 : Int) : Option (L1Cur × Vrow) :=
  (shl .i64 1 (IntKind.u64.wrap (ports1))).bind fun t9 =>
  (spec_l1Below c0 (w64 ((w64 (t9 - 1)) + 1))).bind fun t14 =>
  (spec_l1Int t14.1 ([1, 2, 3, 2] : List Int)).bind fun t17 =>
  (spec_l1Below t17.1 (w64 ((w64 (t9 - 1)) + 1))).bind fun t23 =>
  some (t23.1, (t17.2, t14.2, band .i64 t14.2 t23.2))
noncomputable def F_spec_l9Row2 : Fn := ⟨[.ptr cL1Cur none, .val false (.one (.int .i64)) false], [.val true cVrow (some true)], fun a => spec_l9Row2 a.1 a.2⟩
def a_spec_l9Row2 : List (Nat × LoopAnn) := []
theorem e_spec_l9Row2 : fnDen ⟨tis, fns_89, [], false⟩ a_spec_l9Row2 Tryz.f90 (codeOf Tryz.f90) [.ptr cL1Cur none, .val false (.one (.int .i64)) false] [.val true cVrow (some true)] = fun a => spec_l9Row2 a.1 a.2 := by kernel_rfl
theorem m_spec_l9Row2 : Meets Tryz.prog 90 F_spec_l9Row2 := by
  have h := meets_of (ann := a_spec_l9Row2) (ps := [.ptr cL1Cur none, .val false (.one (.int .i64)) false]) (rs := [.val true cVrow (some true)]) g_89 mixed Tryz.func90 (by kernel_rfl) (by kernel_rfl : Tryz.f90.body = some (codeOf Tryz.f90))
  rw [e_spec_l9Row2] at h
  exact h
noncomputable def fns_90 : List (FuncId × Fn) := (90, F_spec_l9Row2) :: fns_89
theorem g_90 : Good Tryz.prog ⟨tis, fns_90, [], false⟩ := g_89.cons m_spec_l9Row2
noncomputable def spec_l9Draw_l0 (ports1 : Int) (i6 : Int) (b0 : List Int) (b1 : Int) (b2 : Int) (b0_1 : List Vrow) (b1_1 : List Int) : Option ((Int × List Int × Int × Int × List Vrow × List Int) ⊕ (List Int × Int × Int × List Vrow × List Int)) :=
  cond (decide (i6 > 0))
    ((spec_l1Below (b0, b1, b2) 4).bind fun t16 =>
    cond (t16.2 == 0)
      ((spec_l1Below t16.1 ports1).bind fun t31 =>
      (spec_l1Below t31.1 3).bind fun t33 =>
      (spec_SetPvid (b0_1, b1_1) t31.2 (w64 (1 + t33.2))).bind fun t35 =>
      some (.inl (w64 (i6 - 1), t33.1.1, t33.1.2.1, t33.1.2.2, t35.1.1, t35.1.2)))
      (cond (t16.2 == 1)
        ((spec_l1Below t16.1 2).bind fun t43 =>
        (spec_DropRow (b0_1, b1_1) (w64 (2 + t43.2))).bind fun t45 =>
        some (.inl (w64 (i6 - 1), t43.1.1, t43.1.2.1, t43.1.2.2, t45.1.1, t45.1.2)))
        ((spec_l9Row2 t16.1 ports1).bind fun t21 =>
        (spec_PutRow (b0_1, b1_1) t21.2).bind fun t22 =>
        some (.inl (w64 (i6 - 1), t21.1.1, t21.1.2.1, t21.1.2.2, t22.1.1, t22.1.2)))))
    (some (.inr (b0, b1, b2, b0_1, b1_1)))
noncomputable def spec_l9Draw (c0 : L1Cur) (ports1 : Int) : Option (L1Cur × Vtab) :=
  (spec_VtabNew ports1).bind fun t8 =>
  (spec_l1Below c0 6).bind fun t10 =>
  (loop (fun z => spec_l9Draw_l0 ports1 z.1 z.2.1 z.2.2.1 z.2.2.2.1 z.2.2.2.2.1 z.2.2.2.2.2) (t10.2, t10.1.1, t10.1.2.1, t10.1.2.2, t8.1, t8.2)).bind fun d =>
  some ((d.1, d.2.1, d.2.2.1), d.2.2.2)
noncomputable def F_spec_l9Draw : Fn := ⟨[.ptr cL1Cur none, .val false (.one (.int .i64)) false], [.val true cVtab (some true)], fun a => spec_l9Draw a.1 a.2⟩
def a_spec_l9Draw : List (Nat × LoopAnn) := [(0, ⟨⟨[(6, false, [.dat (.int .i64)])], [(1, .box [.dat (.sl (.one (.int .u8))), .dat (.int .i64), .dat (.int .i64)]), (265216, .box [.own 1000000000, .own 1000000001]), (1000000000, .root cVrow true), (1000000001, .root (.one (.int .i64)) true)]⟩,
    ⟨[], [(1, .box [.dat (.sl (.one (.int .u8))), .dat (.int .i64), .dat (.int .i64)]), (265216, .box [.own 1000000300, .own 1000000301]), (1000000300, .root cVrow true), (1000000301, .root (.one (.int .i64)) true)]⟩, none⟩)]
theorem e_spec_l9Draw : fnDen ⟨tis, fns_90, [], false⟩ a_spec_l9Draw Tryz.f67 (codeOf Tryz.f67) [.ptr cL1Cur none, .val false (.one (.int .i64)) false] [.val true cVtab (some true)] = fun a => spec_l9Draw a.1 a.2 := by kernel_rfl
theorem m_spec_l9Draw : Meets Tryz.prog 67 F_spec_l9Draw := by
  have h := meets_of (ann := a_spec_l9Draw) (ps := [.ptr cL1Cur none, .val false (.one (.int .i64)) false]) (rs := [.val true cVtab (some true)]) g_90 mixed Tryz.func67 (by kernel_rfl) (by kernel_rfl : Tryz.f67.body = some (codeOf Tryz.f67))
  rw [e_spec_l9Draw] at h
  exact h
noncomputable def fns_67 : List (FuncId × Fn) := (67, F_spec_l9Draw) :: fns_90
theorem g_67 : Good Tryz.prog ⟨tis, fns_67, [], false⟩ := g_90.cons m_spec_l9Draw
noncomputable def spec_l8At_l0 (l0 : List Fent) (tag1 : Int) (mac2 : Int) (i7 : Int) : Option (Int ⊕ (Unit ⊕ Int)) :=
  cond (decide (i7 < (l0.length : Int)))
    ((at? l0 i7).bind fun x16 =>
    (cond (x16.1 == tag1)
      ((at? l0 i7).bind fun x24 =>
      some (x24.2.1 == mac2))
      (some false)).bind fun t29 =>
    cond t29 (some (.inr (.inr i7))) (some (.inl (w64 (i7 + 1)))))
    (some (.inr (.inl ())))
noncomputable def spec_l8At (l0 : List Fent) (tag1 : Int) (mac2 : Int) : Option Int :=
  (loop (fun z => spec_l8At_l0 l0 tag1 mac2 z) 0).bind (Sum.elim (fun d =>
    some (-1)) (fun r => some r))
noncomputable def F_spec_l8At : Fn := ⟨[.val false (.one (.sl cFent)) false, .val false (.one (.int .i64)) false, .val false (.one (.int .i64)) false], [.val false (.one (.int .i64)) (some true)], fun a => spec_l8At a.1 a.2.1 a.2.2⟩
def a_spec_l8At : List (Nat × LoopAnn) := [(0, ⟨⟨[(7, false, [.dat (.int .i64)]), (22, false, [.undef]), (23, false, [.undef]), (24, false, [.undef]), (25, false, [.undef]), (26, false, [.undef]), (27, false, [.undef]), (28, false, [.undef])], []⟩,
    ⟨[], []⟩, some ⟨[(6, false, [.dat (.int .i64)])], []⟩⟩)]
theorem e_spec_l8At : fnDen ⟨tis, fns_67, [], false⟩ a_spec_l8At Tryz.f91 (codeOf Tryz.f91) [.val false (.one (.sl cFent)) false, .val false (.one (.int .i64)) false, .val false (.one (.int .i64)) false] [.val false (.one (.int .i64)) (some true)] = fun a => spec_l8At a.1 a.2.1 a.2.2 := by kernel_rfl
theorem m_spec_l8At : Meets Tryz.prog 91 F_spec_l8At := by
  have h := meets_of (ann := a_spec_l8At) (ps := [.val false (.one (.sl cFent)) false, .val false (.one (.int .i64)) false, .val false (.one (.int .i64)) false]) (rs := [.val false (.one (.int .i64)) (some true)]) g_67 mixed Tryz.func91 (by kernel_rfl) (by kernel_rfl : Tryz.f91.body = some (codeOf Tryz.f91))
  rw [e_spec_l8At] at h
  exact h
noncomputable def fns_91 : List (FuncId × Fn) := (91, F_spec_l8At) :: fns_67
theorem g_91 : Good Tryz.prog ⟨tis, fns_91, [], false⟩ := g_67.cons m_spec_l8At
noncomputable def spec_l8Ent (e0 : Fent) : Option Bool :=
  (spec_l1In e0.1 1 99).bind fun t5 =>
  (cond t5
    ((spec_l1In e0.2.1 1 9999).bind fun t9 =>
    some t9)
    (some false)).bind fun t10 =>
  (cond t10
    ((spec_l1In e0.2.2.1 0 7).bind fun t14 =>
    some t14)
    (some false)).bind fun t15 =>
  (cond t15
    ((spec_l1In e0.2.2.2.1 0 4).bind fun t19 =>
    some t19)
    (some false)).bind fun t20 =>
  (cond t20
    ((cond (!e0.2.2.2.2) (some true) (some (e0.2.2.2.1 == 0))).bind fun t29 =>
    some t29)
    (some false)).bind fun t30 =>
  some t30
noncomputable def F_spec_l8Ent : Fn := ⟨[.val true cFent false], [.val false (.one .bool) (some true)], fun a => spec_l8Ent a⟩
def a_spec_l8Ent : List (Nat × LoopAnn) := []
theorem e_spec_l8Ent : fnDen ⟨tis, fns_91, [], false⟩ a_spec_l8Ent Tryz.f93 (codeOf Tryz.f93) [.val true cFent false] [.val false (.one .bool) (some true)] = fun a => spec_l8Ent a := by kernel_rfl
theorem m_spec_l8Ent : Meets Tryz.prog 93 F_spec_l8Ent := by
  have h := meets_of (ann := a_spec_l8Ent) (ps := [.val true cFent false]) (rs := [.val false (.one .bool) (some true)]) g_91 mixed Tryz.func93 (by kernel_rfl) (by kernel_rfl : Tryz.f93.body = some (codeOf Tryz.f93))
  rw [e_spec_l8Ent] at h
  exact h
noncomputable def fns_93 : List (FuncId × Fn) := (93, F_spec_l8Ent) :: fns_91
theorem g_93 : Good Tryz.prog ⟨tis, fns_93, [], false⟩ := g_91.cons m_spec_l8Ent
noncomputable def spec_l8Ahead (e0 : Fent) (tag1 : Int) (mac2 : Int) : Option Bool :=
  cond (e0.1 != tag1) (some (decide (e0.1 < tag1))) (some (decide (e0.2.1 < mac2)))
noncomputable def F_spec_l8Ahead : Fn := ⟨[.val true cFent false, .val false (.one (.int .i64)) false, .val false (.one (.int .i64)) false], [.val false (.one .bool) (some true)], fun a => spec_l8Ahead a.1 a.2.1 a.2.2⟩
def a_spec_l8Ahead : List (Nat × LoopAnn) := []
theorem e_spec_l8Ahead : fnDen ⟨tis, fns_93, [], false⟩ a_spec_l8Ahead Tryz.f110 (codeOf Tryz.f110) [.val true cFent false, .val false (.one (.int .i64)) false, .val false (.one (.int .i64)) false] [.val false (.one .bool) (some true)] = fun a => spec_l8Ahead a.1 a.2.1 a.2.2 := by kernel_rfl
theorem m_spec_l8Ahead : Meets Tryz.prog 110 F_spec_l8Ahead := by
  have h := meets_of (ann := a_spec_l8Ahead) (ps := [.val true cFent false, .val false (.one (.int .i64)) false, .val false (.one (.int .i64)) false]) (rs := [.val false (.one .bool) (some true)]) g_93 mixed Tryz.func110 (by kernel_rfl) (by kernel_rfl : Tryz.f110.body = some (codeOf Tryz.f110))
  rw [e_spec_l8Ahead] at h
  exact h
noncomputable def fns_110 : List (FuncId × Fn) := (110, F_spec_l8Ahead) :: fns_93
theorem g_110 : Good Tryz.prog ⟨tis, fns_110, [], false⟩ := g_93.cons m_spec_l8Ahead
noncomputable def spec_FdbOk_l0 (l0 : List Fent) (i3 : Int) : Option (Int ⊕ (Unit ⊕ Bool)) :=
  cond (decide (i3 < (l0.length : Int)))
    ((at? l0 i3).bind fun x12 =>
    (spec_l8Ent x12).bind fun t14 =>
    (cond (!t14)
      (some true)
      ((cond (decide (i3 > 0))
        ((at? l0 (w64 (i3 - 1))).bind fun x23 =>
        (at? l0 i3).bind fun x27 =>
        (at? l0 i3).bind fun x32 =>
        (spec_l8Ahead x23 x27.1 x32.2.1).bind fun t35 =>
        some (!t35))
        (some false)).bind fun t37 =>
      some t37)).bind fun t38 =>
    cond t38 (some (.inr (.inr false))) (some (.inl (w64 (i3 + 1)))))
    (some (.inr (.inl ())))
noncomputable def spec_FdbOk (l0 : List Fent) : Option Bool :=
  (loop (fun z => spec_FdbOk_l0 l0 z) 0).bind (Sum.elim (fun d =>
    let t2 := decide ((l0.length : Int) ≤ 12)
    some t2) (fun r => some r))
noncomputable def F_spec_FdbOk : Fn := ⟨[.val false (.one (.sl cFent)) false], [.val false (.one .bool) (some true)], fun a => spec_FdbOk a⟩
def a_spec_FdbOk : List (Nat × LoopAnn) := [(0, ⟨⟨[(3, false, [.dat (.int .i64)]), (17, false, [.undef]), (18, false, [.undef]), (19, false, [.undef]), (20, false, [.undef]), (21, false, [.undef]), (22, false, [.undef]), (23, false, [.undef]), (24, false, [.undef]), (25, false, [.undef]), (26, false, [.undef]), (27, false, [.undef]), (28, false, [.undef]), (29, false, [.undef]), (30, false, [.undef]), (31, false, [.undef]), (32, false, [.undef]), (33, false, [.undef]), (34, false, [.undef]), (35, false, [.undef]), (36, false, [.undef]), (37, false, [.undef])], []⟩,
    ⟨[], []⟩, some ⟨[(2, false, [.dat .bool])], []⟩⟩)]
theorem e_spec_FdbOk : fnDen ⟨tis, fns_110, [], false⟩ a_spec_FdbOk Tryz.f92 (codeOf Tryz.f92) [.val false (.one (.sl cFent)) false] [.val false (.one .bool) (some true)] = fun a => spec_FdbOk a := by kernel_rfl
theorem m_spec_FdbOk : Meets Tryz.prog 92 F_spec_FdbOk := by
  have h := meets_of (ann := a_spec_FdbOk) (ps := [.val false (.one (.sl cFent)) false]) (rs := [.val false (.one .bool) (some true)]) g_110 mixed Tryz.func92 (by kernel_rfl) (by kernel_rfl : Tryz.f92.body = some (codeOf Tryz.f92))
  rw [e_spec_FdbOk] at h
  exact h
noncomputable def fns_92 : List (FuncId × Fn) := (92, F_spec_FdbOk) :: fns_110
theorem g_92 : Good Tryz.prog ⟨tis, fns_92, [], false⟩ := g_110.cons m_spec_FdbOk
noncomputable def spec_l8Copy (l0 : List Fent) : Option (List Fent) :=
  (app ([] : List Fent) l0).bind fun zs5 =>
  some zs5
noncomputable def F_spec_l8Copy : Fn := ⟨[.val false (.one (.sl cFent)) false], [.val false (.one (.sl cFent)) (some true)], fun a => spec_l8Copy a⟩
def a_spec_l8Copy : List (Nat × LoopAnn) := []
theorem e_spec_l8Copy : fnDen ⟨tis, fns_92, [], false⟩ a_spec_l8Copy Tryz.f94 (codeOf Tryz.f94) [.val false (.one (.sl cFent)) false] [.val false (.one (.sl cFent)) (some true)] = fun a => spec_l8Copy a := by kernel_rfl
theorem m_spec_l8Copy : Meets Tryz.prog 94 F_spec_l8Copy := by
  have h := meets_of (ann := a_spec_l8Copy) (ps := [.val false (.one (.sl cFent)) false]) (rs := [.val false (.one (.sl cFent)) (some true)]) g_92 mixed Tryz.func94 (by kernel_rfl) (by kernel_rfl : Tryz.f94.body = some (codeOf Tryz.f94))
  rw [e_spec_l8Copy] at h
  exact h
noncomputable def fns_94 : List (FuncId × Fn) := (94, F_spec_l8Copy) :: fns_92
theorem g_94 : Good Tryz.prog ⟨tis, fns_94, [], false⟩ := g_92.cons m_spec_l8Copy
noncomputable def spec_l8Put_l0 (p0 : List Fent) (i1 : Fent) (t6 : Bool) (t7 : Int) (t5 : List Fent) : Option ((Bool × Int × List Fent) ⊕ (Bool × List Fent)) :=
  cond (decide (t7 < (p0.length : Int)))
    ((cond (!t6)
      ((at? p0 t7).bind fun x20 =>
      (spec_l8Ahead x20 i1.1 i1.2.1).bind fun t26 =>
      some (!t26))
      (some false)).bind fun t28 =>
    cond t28
      ((app t5 [i1]).bind fun zs32 =>
      (at? p0 t7).bind fun x35 =>
      (cond (x35.1 != i1.1)
        (some true)
        ((at? p0 t7).bind fun x44 =>
        some (x44.2.1 != i1.2.1))).bind fun t50 =>
      cond t50
        ((at? p0 t7).bind fun x54 =>
        (app zs32 [x54]).bind fun zs57 =>
        some (.inl (true, w64 (t7 + 1), zs57)))
        (some (.inl (true, w64 (t7 + 1), zs32))))
      ((at? p0 t7).bind fun x35_1 =>
      (cond (x35_1.1 != i1.1)
        (some true)
        ((at? p0 t7).bind fun x44_1 =>
        some (x44_1.2.1 != i1.2.1))).bind fun t50_1 =>
      cond t50_1
        ((at? p0 t7).bind fun x54_1 =>
        (app t5 [x54_1]).bind fun zs57_1 =>
        some (.inl (t6, w64 (t7 + 1), zs57_1)))
        (some (.inl (t6, w64 (t7 + 1), t5)))))
    (some (.inr (t6, t5)))
noncomputable def spec_l8Put (p0 : List Fent) (i1 : Fent) : Option (List Fent) :=
  (loop (fun z => spec_l8Put_l0 p0 i1 z.1 z.2.1 z.2.2) (false, 0, ([] : List Fent))).bind fun d =>
  cond (!d.1)
    ((app d.2 [i1]).bind fun zs63 =>
    some zs63)
    (some d.2)
noncomputable def F_spec_l8Put : Fn := ⟨[.val false (.one (.sl cFent)) false, .val true cFent false], [.val false (.one (.sl cFent)) (some true)], fun a => spec_l8Put a.1 a.2⟩
def a_spec_l8Put : List (Nat × LoopAnn) := [(0, ⟨⟨[(5, false, [.own 1000000000]), (6, false, [.dat .bool]), (7, false, [.dat (.int .i64)]), (18, false, [.undef]), (19, false, [.undef]), (20, false, [.undef]), (21, false, [.undef]), (22, false, [.undef]), (23, false, [.undef]), (24, false, [.undef]), (25, false, [.undef]), (26, false, [.undef]), (27, false, [.undef]), (42, false, [.undef]), (43, false, [.undef]), (44, false, [.undef]), (45, false, [.undef]), (46, false, [.undef]), (47, false, [.undef]), (48, false, [.undef]), (49, false, [.undef])], [(1000000000, .root cFent true)]⟩,
    ⟨[(5, false, [.own 1000000300]), (6, false, [.dat .bool])], [(1000000300, .root cFent true)]⟩, none⟩)]
theorem e_spec_l8Put : fnDen ⟨tis, fns_94, [], false⟩ a_spec_l8Put Tryz.f95 (codeOf Tryz.f95) [.val false (.one (.sl cFent)) false, .val true cFent false] [.val false (.one (.sl cFent)) (some true)] = fun a => spec_l8Put a.1 a.2 := by kernel_rfl
theorem m_spec_l8Put : Meets Tryz.prog 95 F_spec_l8Put := by
  have h := meets_of (ann := a_spec_l8Put) (ps := [.val false (.one (.sl cFent)) false, .val true cFent false]) (rs := [.val false (.one (.sl cFent)) (some true)]) g_94 mixed Tryz.func95 (by kernel_rfl) (by kernel_rfl : Tryz.f95.body = some (codeOf Tryz.f95))
  rw [e_spec_l8Put] at h
  exact h
noncomputable def fns_95 : List (FuncId × Fn) := (95, F_spec_l8Put) :: fns_94
theorem g_95 : Good Tryz.prog ⟨tis, fns_95, [], false⟩ := g_94.cons m_spec_l8Put
noncomputable def spec_Learn (l0 : List Fent) (tag1 : Int) (mac2 : Int) (port3 : Int) : Option (List Fent) :=
  (spec_l8At l0 tag1 mac2).bind fun t18 =>
  (spec_FdbOk l0).bind fun t20 =>
  (cond (!t20)
    (some true)
    ((spec_l8Ent (tag1, mac2, port3, 0, false)).bind fun t24 =>
    some (!t24))).bind fun t26 =>
  (cond t26
    (some true)
    ((cond (decide (t18 ≥ 0))
      ((at? l0 t18).bind fun x33 =>
      some x33.2.2.2.2)
      (some false)).bind fun t36 =>
    some t36)).bind fun t37 =>
  (cond t37
    (some true)
    ((cond (decide (t18 < 0)) (some (decide ((l0.length : Int) ≥ 12))) (some false)).bind fun t45 =>
    some t45)).bind fun t46 =>
  cond t46
    ((spec_l8Copy l0).bind fun t48 =>
    some t48)
    ((spec_l8Put l0 (tag1, mac2, port3, 0, false)).bind fun t51 =>
    some t51)
noncomputable def F_spec_Learn : Fn := ⟨[.val false (.one (.sl cFent)) false, .val false (.one (.int .i64)) false, .val false (.one (.int .i64)) false, .val false (.one (.int .i64)) false], [.val false (.one (.sl cFent)) (some true)], fun a => spec_Learn a.1 a.2.1 a.2.2.1 a.2.2.2⟩
def a_spec_Learn : List (Nat × LoopAnn) := []
theorem e_spec_Learn : fnDen ⟨tis, fns_95, [], false⟩ a_spec_Learn Tryz.f68 (codeOf Tryz.f68) [.val false (.one (.sl cFent)) false, .val false (.one (.int .i64)) false, .val false (.one (.int .i64)) false, .val false (.one (.int .i64)) false] [.val false (.one (.sl cFent)) (some true)] = fun a => spec_Learn a.1 a.2.1 a.2.2.1 a.2.2.2 := by kernel_rfl
theorem m_spec_Learn : Meets Tryz.prog 68 F_spec_Learn := by
  have h := meets_of (ann := a_spec_Learn) (ps := [.val false (.one (.sl cFent)) false, .val false (.one (.int .i64)) false, .val false (.one (.int .i64)) false, .val false (.one (.int .i64)) false]) (rs := [.val false (.one (.sl cFent)) (some true)]) g_95 mixed Tryz.func68 (by kernel_rfl) (by kernel_rfl : Tryz.f68.body = some (codeOf Tryz.f68))
  rw [e_spec_Learn] at h
  exact h
noncomputable def fns_68 : List (FuncId × Fn) := (68, F_spec_Learn) :: fns_95
theorem g_68 : Good Tryz.prog ⟨tis, fns_68, [], false⟩ := g_95.cons m_spec_Learn
noncomputable def spec_l6Mac (c0 : L1Cur) : Option (L1Cur × Int) :=
  (spec_l1Int c0 ([11, 12, 13, 14] : List Int)).bind fun t5 =>
  some t5
noncomputable def F_spec_l6Mac : Fn := ⟨[.ptr cL1Cur none], [.val false (.one (.int .i64)) (some true)], fun a => spec_l6Mac a⟩
def a_spec_l6Mac : List (Nat × LoopAnn) := []
theorem e_spec_l6Mac : fnDen ⟨tis, fns_68, [], false⟩ a_spec_l6Mac Tryz.f69 (codeOf Tryz.f69) [.ptr cL1Cur none] [.val false (.one (.int .i64)) (some true)] = fun a => spec_l6Mac a := by kernel_rfl
theorem m_spec_l6Mac : Meets Tryz.prog 69 F_spec_l6Mac := by
  have h := meets_of (ann := a_spec_l6Mac) (ps := [.ptr cL1Cur none]) (rs := [.val false (.one (.int .i64)) (some true)]) g_68 mixed Tryz.func69 (by kernel_rfl) (by kernel_rfl : Tryz.f69.body = some (codeOf Tryz.f69))
  rw [e_spec_l6Mac] at h
  exact h
noncomputable def fns_69 : List (FuncId × Fn) := (69, F_spec_l6Mac) :: fns_68
theorem g_69 : Good Tryz.prog ⟨tis, fns_69, [], false⟩ := g_68.cons m_spec_l6Mac
noncomputable def spec_SetStatic (l0 : List Fent) (tag1 : Int) (mac2 : Int) (port3 : Int) : Option ((List Fent) × Bool) :=
  (spec_FdbOk l0).bind fun t16 =>
  (cond (!t16)
    (some true)
    ((spec_l8Ent (tag1, mac2, port3, 0, true)).bind fun t20 =>
    some (!t20))).bind fun t22 =>
  (cond t22
    (some true)
    ((spec_l8At l0 tag1 mac2).bind fun t27 =>
    (cond (decide (t27 < 0)) (some (decide ((l0.length : Int) ≥ 12))) (some false)).bind fun t33 =>
    some t33)).bind fun t34 =>
  cond t34
    ((spec_l8Copy l0).bind fun t36 =>
    some (t36, false))
    ((spec_l8Put l0 (tag1, mac2, port3, 0, true)).bind fun t39 =>
    some (t39, true))
noncomputable def F_spec_SetStatic : Fn := ⟨[.val false (.one (.sl cFent)) false, .val false (.one (.int .i64)) false, .val false (.one (.int .i64)) false, .val false (.one (.int .i64)) false], [.val false (.one (.sl cFent)) (some true), .val false (.one .bool) (some true)], fun a => spec_SetStatic a.1 a.2.1 a.2.2.1 a.2.2.2⟩
def a_spec_SetStatic : List (Nat × LoopAnn) := []
theorem e_spec_SetStatic : fnDen ⟨tis, fns_69, [], false⟩ a_spec_SetStatic Tryz.f71 (codeOf Tryz.f71) [.val false (.one (.sl cFent)) false, .val false (.one (.int .i64)) false, .val false (.one (.int .i64)) false, .val false (.one (.int .i64)) false] [.val false (.one (.sl cFent)) (some true), .val false (.one .bool) (some true)] = fun a => spec_SetStatic a.1 a.2.1 a.2.2.1 a.2.2.2 := by kernel_rfl
theorem m_spec_SetStatic : Meets Tryz.prog 71 F_spec_SetStatic := by
  have h := meets_of (ann := a_spec_SetStatic) (ps := [.val false (.one (.sl cFent)) false, .val false (.one (.int .i64)) false, .val false (.one (.int .i64)) false, .val false (.one (.int .i64)) false]) (rs := [.val false (.one (.sl cFent)) (some true), .val false (.one .bool) (some true)]) g_69 mixed Tryz.func71 (by kernel_rfl) (by kernel_rfl : Tryz.f71.body = some (codeOf Tryz.f71))
  rw [e_spec_SetStatic] at h
  exact h
noncomputable def fns_71 : List (FuncId × Fn) := (71, F_spec_SetStatic) :: fns_69
theorem g_71 : Good Tryz.prog ⟨tis, fns_71, [], false⟩ := g_69.cons m_spec_SetStatic
noncomputable def spec_l11Draw_l0 (t7 : L1Cur × Int) (t5 : Int) (b0 : List Int) (b1 : Int) (b2 : Int) (b0_1 : Int) (b1_1 : List UInt8) (b6 : Int) (b7 : Int) (b8 : Int) (b9 : Int) (b10 : Int) (b3 : List Fent) : Option ((Int × List Int × Int × Int × Int × List UInt8 × Int × Int × Int × Int × Int × List Fent) ⊕ (List Int × Int × Int × Int × List UInt8 × Int × Int × Int × Int × Int × List Fent)) :=
  cond (decide (t5 > 0))
    ((spec_l1Below (b0, b1, b2) 3).bind fun t35 =>
    (spec_l6Mac t35.1).bind fun t38 =>
    (spec_l1Below t38.1 (w64 (1 + t7.2))).bind fun t41 =>
    (spec_Learn b3 (w64 (1 + t35.2)) t38.2 t41.2).bind fun t42 =>
    some (.inl (w64 (t5 - 1), t41.1.1, t41.1.2.1, t41.1.2.2, b0_1, b1_1, b6, b7, b8, b9, b10, t42)))
    (some (.inr (b0, b1, b2, b0_1, b1_1, b6, b7, b8, b9, b10, b3)))
noncomputable def spec_l11Draw (p0 : L1Cur) : Option (L1Cur × Bridge) :=
  (spec_l1Below p0 4).bind fun t7 =>
  (spec_l1Below t7.1 5).bind fun t10 =>
  (spec_BridgeNew (w64 (1 + t10.2)) (w64 (1 + t7.2))).bind fun t13 =>
  (spec_l1Str t10.1 ([[], [121, 97, 114, 100], [98, 49]] : List (List UInt8))).bind fun t16 =>
  (spec_l10Draw t16.1 (w64 (1 + t7.2))).bind fun t20 =>
  (spec_l9Draw t20.1 (w64 (1 + t7.2))).bind fun t24 =>
  (spec_l1Below t24.1 6).bind fun t27 =>
  (loop (fun z => spec_l11Draw_l0 t7 z.1 z.2.1 z.2.2.1 z.2.2.2.1 z.2.2.2.2.1 z.2.2.2.2.2.1 z.2.2.2.2.2.2.1 z.2.2.2.2.2.2.2.1 z.2.2.2.2.2.2.2.2.1 z.2.2.2.2.2.2.2.2.2.1 z.2.2.2.2.2.2.2.2.2.2.1 z.2.2.2.2.2.2.2.2.2.2.2) (t27.2, t27.1.1, t27.1.2.1, t27.1.2.2, t13.1, t16.2, t13.2.2.2.2.2.2.1, t13.2.2.2.2.2.2.2.1, t13.2.2.2.2.2.2.2.2.1, t13.2.2.2.2.2.2.2.2.2.1, t13.2.2.2.2.2.2.2.2.2.2, t13.2.2.2.1)).bind fun d =>
  (spec_l1Once (d.1, d.2.1, d.2.2.1) 3).bind fun t45 =>
  cond t45.2
    ((spec_l6Mac t45.1).bind fun t50 =>
    (spec_l1Below t50.1 (w64 (1 + t7.2))).bind fun t53 =>
    (spec_SetStatic d.2.2.2.2.2.2.2.2.2.2 1 t50.2 t53.2).bind fun t54 =>
    (spec_l1Below t53.1 5).bind fun t59 =>
    (spec_l1Int t59.1 ([0, 1, 5, 1000000] : List Int)).bind fun t63 =>
    some (t63.1, (d.2.2.2.1, d.2.2.2.2.1, t20.2, t54.1, t24.2.1, t24.2.2, t59.2, d.2.2.2.2.2.2.1, d.2.2.2.2.2.2.2.1, d.2.2.2.2.2.2.2.2.1, t63.2)))
    ((spec_l1Below t45.1 5).bind fun t59_1 =>
    (spec_l1Int t59_1.1 ([0, 1, 5, 1000000] : List Int)).bind fun t63_1 =>
    some (t63_1.1, (d.2.2.2.1, d.2.2.2.2.1, t20.2, d.2.2.2.2.2.2.2.2.2.2, t24.2.1, t24.2.2, t59_1.2, d.2.2.2.2.2.2.1, d.2.2.2.2.2.2.2.1, d.2.2.2.2.2.2.2.2.1, t63_1.2)))
noncomputable def F_spec_l11Draw : Fn := ⟨[.ptr cL1Cur none], [.val true cBridge (some true)], fun a => spec_l11Draw a⟩
def a_spec_l11Draw : List (Nat × LoopAnn) := [(0, ⟨⟨[(5, false, [.dat (.int .i64)])], [(1, .box [.dat (.sl (.one (.int .u8))), .dat (.int .i64), .dat (.int .i64)]), (530432, .box [.dat (.int .i64), .dat .str, .same 1051712, .own 1000000000, .same 1313856, .same 1313857, .dat (.int .i64), .dat (.int .i64), .dat (.int .i64), .dat (.int .i64), .dat (.int .i64)]), (1000000000, .root cFent true)]⟩,
    ⟨[], [(1, .box [.dat (.sl (.one (.int .u8))), .dat (.int .i64), .dat (.int .i64)]), (530432, .box [.dat (.int .i64), .dat .str, .same 1051712, .own 1000000300, .same 1313856, .same 1313857, .dat (.int .i64), .dat (.int .i64), .dat (.int .i64), .dat (.int .i64), .dat (.int .i64)]), (1000000300, .root cFent true)]⟩, none⟩)]
theorem e_spec_l11Draw : fnDen ⟨tis, fns_71, [], false⟩ a_spec_l11Draw Tryz.f46 (codeOf Tryz.f46) [.ptr cL1Cur none] [.val true cBridge (some true)] = fun a => spec_l11Draw a := by kernel_rfl
theorem m_spec_l11Draw : Meets Tryz.prog 46 F_spec_l11Draw := by
  have h := meets_of (ann := a_spec_l11Draw) (ps := [.ptr cL1Cur none]) (rs := [.val true cBridge (some true)]) g_71 mixed Tryz.func46 (by kernel_rfl) (by kernel_rfl : Tryz.f46.body = some (codeOf Tryz.f46))
  rw [e_spec_l11Draw] at h
  exact h
noncomputable def fns_46 : List (FuncId × Fn) := (46, F_spec_l11Draw) :: fns_71
theorem g_46 : Good Tryz.prog ⟨tis, fns_46, [], false⟩ := g_71.cons m_spec_l11Draw
noncomputable def spec_l7Any (c0 : L1Cur) : Option (L1Cur × Vec) :=
  (spec_l7Draw c0).bind fun t5 =>
  (spec_l1Below t5.1 12).bind fun t7 =>
  cond (t7.2 == 0)
    ((spec_l1Int t7.1 ([0, 99, 100] : List Int)).bind fun t12 =>
    some (t12.1, (t12.2, t5.2.2.1, t5.2.2.2.1, t5.2.2.2.2.1, t5.2.2.2.2.2)))
    (cond (t7.2 == 1)
      ((spec_l1Int t7.1 ([(-1), 99999, 100000, 100001] : List Int)).bind fun t18 =>
      some (t18.1, (t5.2.1, t18.2, t5.2.2.2.1, t5.2.2.2.2.1, t5.2.2.2.2.2)))
      (cond (t7.2 == 2)
        ((spec_l1Int t7.1 ([(-1), 11] : List Int)).bind fun t24 =>
        some (t24.1, (t5.2.1, t5.2.2.1, t24.2, t5.2.2.2.2.1, t5.2.2.2.2.2)))
        (cond (t7.2 == 3)
          ((spec_l1Int t7.1 ([(-1), 7, 8] : List Int)).bind fun t30 =>
          some (t30.1, (t5.2.1, t5.2.2.1, t5.2.2.2.1, t5.2.2.2.2.1, t30.2)))
          (some (t7.1, t5.2)))))
noncomputable def F_spec_l7Any : Fn := ⟨[.ptr cL1Cur none], [.val true cVec (some true)], fun a => spec_l7Any a⟩
def a_spec_l7Any : List (Nat × LoopAnn) := []
theorem e_spec_l7Any : fnDen ⟨tis, fns_46, [], false⟩ a_spec_l7Any Tryz.f72 (codeOf Tryz.f72) [.ptr cL1Cur none] [.val true cVec (some true)] = fun a => spec_l7Any a := by kernel_rfl
theorem m_spec_l7Any : Meets Tryz.prog 72 F_spec_l7Any := by
  have h := meets_of (ann := a_spec_l7Any) (ps := [.ptr cL1Cur none]) (rs := [.val true cVec (some true)]) g_46 mixed Tryz.func72 (by kernel_rfl) (by kernel_rfl : Tryz.f72.body = some (codeOf Tryz.f72))
  rw [e_spec_l7Any] at h
  exact h
noncomputable def fns_72 : List (FuncId × Fn) := (72, F_spec_l7Any) :: fns_46
theorem g_72 : Good Tryz.prog ⟨tis, fns_72, [], false⟩ := g_46.cons m_spec_l7Any
noncomputable def spec_l10Any (c0 : L1Cur) : Option (L1Cur × List Pt) :=
  (spec_l1Below c0 4).bind fun t6 =>
  (spec_l10Draw t6.1 (w64 (1 + t6.2))).bind fun t8 =>
  (spec_l1Below t8.1 12).bind fun t10 =>
  cond (t10.2 == 0)
    ((spec_l7Any t10.1).bind fun t15 =>
    (ix t8.2.length 0).bind fun j16 =>
    (t8.2[j16]?).bind fun x =>
    some (t15.1, t8.2.set j16 (x.1, x.2.1, x.2.2.1, t15.2.1, t15.2.2.1, t15.2.2.2.1, t15.2.2.2.2.1, t15.2.2.2.2.2)))
    (cond (t10.2 == 1)
      ((spec_l1Int t10.1 ([0, 1000, 1001] : List Int)).bind fun t23 =>
      (ix t8.2.length 0).bind fun j24 =>
      (t8.2[j24]?).bind fun x_1 =>
      some (t23.1, t8.2.set j24 (x_1.1, t23.2, x_1.2.2.1, x_1.2.2.2.1, x_1.2.2.2.2.1, x_1.2.2.2.2.2.1, x_1.2.2.2.2.2.2.1, x_1.2.2.2.2.2.2.2)))
      (cond (t10.2 == 2)
        ((ix t8.2.length 0).bind fun j29 =>
        (t8.2[j29]?).bind fun x_2 =>
        some (t10.1, t8.2.set j29 (false, x_2.2.1, x_2.2.2.1, x_2.2.2.2.1, x_2.2.2.2.2.1, x_2.2.2.2.2.2.1, x_2.2.2.2.2.2.2.1, x_2.2.2.2.2.2.2.2)))
        (some (t10.1, t8.2))))
noncomputable def F_spec_l10Any : Fn := ⟨[.ptr cL1Cur none], [.val false (.one (.sl cPt)) (some true)], fun a => spec_l10Any a⟩
def a_spec_l10Any : List (Nat × LoopAnn) := []
theorem e_spec_l10Any : fnDen ⟨tis, fns_72, [], false⟩ a_spec_l10Any Tryz.f48 (codeOf Tryz.f48) [.ptr cL1Cur none] [.val false (.one (.sl cPt)) (some true)] = fun a => spec_l10Any a := by kernel_rfl
theorem m_spec_l10Any : Meets Tryz.prog 48 F_spec_l10Any := by
  have h := meets_of (ann := a_spec_l10Any) (ps := [.ptr cL1Cur none]) (rs := [.val false (.one (.sl cPt)) (some true)]) g_72 mixed Tryz.func48 (by kernel_rfl) (by kernel_rfl : Tryz.f48.body = some (codeOf Tryz.f48))
  rw [e_spec_l10Any] at h
  exact h
noncomputable def fns_48 : List (FuncId × Fn) := (48, F_spec_l10Any) :: fns_72
theorem g_48 : Good Tryz.prog ⟨tis, fns_48, [], false⟩ := g_72.cons m_spec_l10Any
noncomputable def spec_AgeAll_l0 (l0 : List Fent) (i4 : Int) (out3 : List Fent) : Option ((Int × List Fent) ⊕ (List Fent)) :=
  cond (decide (i4 < (l0.length : Int)))
    ((at? l0 i4).bind fun x15 =>
    cond x15.2.2.2.2
      ((app out3 [x15]).bind fun zs22 =>
      some (.inl (w64 (i4 + 1), zs22)))
      (cond (decide (x15.2.2.2.1 < 4))
        ((app out3 [(x15.1, x15.2.1, x15.2.2.1, w64 (x15.2.2.2.1 + 1), x15.2.2.2.2)]).bind fun zs33 =>
        some (.inl (w64 (i4 + 1), zs33)))
        (some (.inl (w64 (i4 + 1), out3)))))
    (some (.inr out3))
noncomputable def spec_AgeAll (l0 : List Fent) : Option (List Fent) :=
  (loop (fun z => spec_AgeAll_l0 l0 z.1 z.2) (0, ([] : List Fent))).bind fun d =>
  some d
noncomputable def F_spec_AgeAll : Fn := ⟨[.val false (.one (.sl cFent)) false], [.val false (.one (.sl cFent)) (some true)], fun a => spec_AgeAll a⟩
def a_spec_AgeAll : List (Nat × LoopAnn) := [(0, ⟨⟨[(3, false, [.own 1000000000]), (4, false, [.dat (.int .i64)])], [(1000000000, .root cFent true)]⟩,
    ⟨[(3, false, [.own 1000000300])], [(1000000300, .root cFent true)]⟩, none⟩)]
theorem e_spec_AgeAll : fnDen ⟨tis, fns_48, [], false⟩ a_spec_AgeAll Tryz.f96 (codeOf Tryz.f96) [.val false (.one (.sl cFent)) false] [.val false (.one (.sl cFent)) (some true)] = fun a => spec_AgeAll a := by kernel_rfl
theorem m_spec_AgeAll : Meets Tryz.prog 96 F_spec_AgeAll := by
  have h := meets_of (ann := a_spec_AgeAll) (ps := [.val false (.one (.sl cFent)) false]) (rs := [.val false (.one (.sl cFent)) (some true)]) g_48 mixed Tryz.func96 (by kernel_rfl) (by kernel_rfl : Tryz.f96.body = some (codeOf Tryz.f96))
  rw [e_spec_AgeAll] at h
  exact h
noncomputable def fns_96 : List (FuncId × Fn) := (96, F_spec_AgeAll) :: fns_48
theorem g_96 : Good Tryz.prog ⟨tis, fns_96, [], false⟩ := g_48.cons m_spec_AgeAll
noncomputable def spec_l8Draw_l0 (i4 : Int) (b0 : List Int) (b1 : Int) (b2 : Int) (l3 : List Fent) : Option ((Int × List Int × Int × Int × List Fent) ⊕ (List Int × Int × Int × List Fent)) :=
  cond (decide (i4 > 0))
    ((spec_l1Below (b0, b1, b2) 6).bind fun t13 =>
    cond (t13.2 == 0)
      ((spec_l1Below t13.1 3).bind fun t31 =>
      (spec_l6Mac t31.1).bind fun t34 =>
      (spec_l1Below t34.1 4).bind fun t36 =>
      (spec_SetStatic l3 (w64 (1 + t31.2)) t34.2 t36.2).bind fun t37 =>
      some (.inl (w64 (i4 - 1), t36.1.1, t36.1.2.1, t36.1.2.2, t37.1)))
      (cond (t13.2 == 1)
        ((spec_AgeAll l3).bind fun t43 =>
        some (.inl (w64 (i4 - 1), t13.1.1, t13.1.2.1, t13.1.2.2, t43)))
        ((spec_l1Below t13.1 3).bind fun t16 =>
        (spec_l6Mac t16.1).bind fun t19 =>
        (spec_l1Below t19.1 3).bind fun t21 =>
        (spec_l1Below t21.1 4).bind fun t24 =>
        (spec_Learn l3 (w64 (1 + t16.2)) (w64 (t19.2 + t21.2)) t24.2).bind fun t25 =>
        some (.inl (w64 (i4 - 1), t24.1.1, t24.1.2.1, t24.1.2.2, t25)))))
    (some (.inr (b0, b1, b2, l3)))
noncomputable def spec_l8Draw (c0 : L1Cur) : Option (L1Cur × List Fent) :=
  (spec_l1Below c0 10).bind fun t7 =>
  (loop (fun z => spec_l8Draw_l0 z.1 z.2.1 z.2.2.1 z.2.2.2.1 z.2.2.2.2) (t7.2, t7.1.1, t7.1.2.1, t7.1.2.2, ([] : List Fent))).bind fun d =>
  some ((d.1, d.2.1, d.2.2.1), d.2.2.2)
noncomputable def F_spec_l8Draw : Fn := ⟨[.ptr cL1Cur none], [.val false (.one (.sl cFent)) (some true)], fun a => spec_l8Draw a⟩
def a_spec_l8Draw : List (Nat × LoopAnn) := [(0, ⟨⟨[(3, false, [.own 1000000000]), (4, false, [.dat (.int .i64)])], [(1, .box [.dat (.sl (.one (.int .u8))), .dat (.int .i64), .dat (.int .i64)]), (1000000000, .root cFent true)]⟩,
    ⟨[(3, false, [.own 1000000300])], [(1, .box [.dat (.sl (.one (.int .u8))), .dat (.int .i64), .dat (.int .i64)]), (1000000300, .root cFent true)]⟩, none⟩)]
theorem e_spec_l8Draw : fnDen ⟨tis, fns_96, [], false⟩ a_spec_l8Draw Tryz.f73 (codeOf Tryz.f73) [.ptr cL1Cur none] [.val false (.one (.sl cFent)) (some true)] = fun a => spec_l8Draw a := by kernel_rfl
theorem m_spec_l8Draw : Meets Tryz.prog 73 F_spec_l8Draw := by
  have h := meets_of (ann := a_spec_l8Draw) (ps := [.ptr cL1Cur none]) (rs := [.val false (.one (.sl cFent)) (some true)]) g_96 mixed Tryz.func73 (by kernel_rfl) (by kernel_rfl : Tryz.f73.body = some (codeOf Tryz.f73))
  rw [e_spec_l8Draw] at h
  exact h
noncomputable def fns_73 : List (FuncId × Fn) := (73, F_spec_l8Draw) :: fns_96
theorem g_73 : Good Tryz.prog ⟨tis, fns_73, [], false⟩ := g_96.cons m_spec_l8Draw
noncomputable def spec_l8Any_l1 (i4 : Int) (b0 : List Int) (b1 : Int) (b2 : Int) (l3 : List Fent) : Option ((Int × List Int × Int × Int × List Fent) ⊕ (List Int × Int × Int × List Fent)) :=
  (spec_l1Below (b0, b1, b2) 3).bind fun t31 =>
  cond (decide (i4 < (w64 (11 + t31.2))))
    ((app l3 [(50, w64 (100 + i4), 1, 0, false)]).bind fun zs41 =>
    some (.inl (w64 (i4 + 1), t31.1.1, t31.1.2.1, t31.1.2.2, zs41)))
    (some (.inr (t31.1.1, t31.1.2.1, t31.1.2.2, l3)))
noncomputable def spec_l8Any (c0 : L1Cur) : Option (L1Cur × List Fent) :=
  (spec_l8Draw c0).bind fun t6 =>
  (spec_l1Below t6.1 12).bind fun t8 =>
  cond (t8.2 == 0)
    ((spec_l1Int t8.1 ([0, 1, 99, 100] : List Int)).bind fun t14 =>
    (spec_l1Int t14.1 ([0, 1, 9999] : List Int)).bind fun t17 =>
    (spec_l1Int t17.1 ([(-1), 7, 8] : List Int)).bind fun t20 =>
    (spec_l1Int t20.1 ([(-1), 4, 5] : List Int)).bind fun t23 =>
    (app t6.2 [(t14.2, t17.2, t20.2, t23.2, false)]).bind fun zs26 =>
    some (t23.1, zs26))
    (cond (t8.2 == 1)
      ((loop (fun z => spec_l8Any_l1 z.1 z.2.1 z.2.2.1 z.2.2.2.1 z.2.2.2.2) (0, t8.1.1, t8.1.2.1, t8.1.2.2, t6.2)).bind fun d =>
      some ((d.1, d.2.1, d.2.2.1), d.2.2.2))
      (some (t8.1, t6.2)))
noncomputable def F_spec_l8Any : Fn := ⟨[.ptr cL1Cur none], [.val false (.one (.sl cFent)) (some true)], fun a => spec_l8Any a⟩
def a_spec_l8Any : List (Nat × LoopAnn) := [(1, ⟨⟨[(3, false, [.own 1000001000]), (4, false, [.dat (.int .i64)])], [(1, .box [.dat (.sl (.one (.int .u8))), .dat (.int .i64), .dat (.int .i64)]), (1000001000, .root cFent true)]⟩,
    ⟨[(3, false, [.own 1000001300])], [(1, .box [.dat (.sl (.one (.int .u8))), .dat (.int .i64), .dat (.int .i64)]), (1000001300, .root cFent true)]⟩, none⟩)]
theorem e_spec_l8Any : fnDen ⟨tis, fns_73, [], false⟩ a_spec_l8Any Tryz.f49 (codeOf Tryz.f49) [.ptr cL1Cur none] [.val false (.one (.sl cFent)) (some true)] = fun a => spec_l8Any a := by kernel_rfl
theorem m_spec_l8Any : Meets Tryz.prog 49 F_spec_l8Any := by
  have h := meets_of (ann := a_spec_l8Any) (ps := [.ptr cL1Cur none]) (rs := [.val false (.one (.sl cFent)) (some true)]) g_73 mixed Tryz.func49 (by kernel_rfl) (by kernel_rfl : Tryz.f49.body = some (codeOf Tryz.f49))
  rw [e_spec_l8Any] at h
  exact h
noncomputable def fns_49 : List (FuncId × Fn) := (49, F_spec_l8Any) :: fns_73
theorem g_49 : Good Tryz.prog ⟨tis, fns_49, [], false⟩ := g_73.cons m_spec_l8Any
noncomputable def spec_l9Any_l1 (i6 : Int) (b0 : List Vrow) (b1 : List Int) : Option ((Int × List Vrow × List Int) ⊕ (List Vrow × List Int)) :=
  cond (decide (i6 < 6))
    ((spec_l9Row (b0, b1) (w64 (10 + i6), 0, 0)).bind fun t54 =>
    some (.inl (w64 (i6 + 1), t54.1, t54.2)))
    (some (.inr (b0, b1)))
noncomputable def spec_l9Any (c0 : L1Cur) : Option (L1Cur × Vtab × Int) :=
  (spec_l1Below c0 4).bind fun t8 =>
  (spec_l9Draw t8.1 (w64 (1 + t8.2))).bind fun t12 =>
  (spec_l1Below t12.1 12).bind fun t14 =>
  cond (t14.2 == 0)
    ((spec_l1Int t14.1 ([0, 1, 9, 100] : List Int)).bind fun t21 =>
    (spec_l1Int t21.1 ([(-1), 0, 1, 64] : List Int)).bind fun t24 =>
    (spec_l1Below t24.1 3).bind fun t26 =>
    (app t12.2.1 [(t21.2, t24.2, t26.2)]).bind fun zs29 =>
    some (t26.1, (zs29, t12.2.2), w64 (1 + t8.2)))
    (cond (t14.2 == 1)
      ((spec_l1Int t14.1 ([0, 7] : List Int)).bind fun t37 =>
      (ix t12.2.2.length 0).bind fun j38 =>
      (t12.2.2[j38]?).bind fun x =>
      some (t37.1, (t12.2.1, t12.2.2.set j38 t37.2), w64 (1 + t8.2)))
      (cond (t14.2 == 2)
        ((spec_l1Int t14.1 ([0, 6, 7] : List Int)).bind fun t43 =>
        some (t43.1, t12.2, t43.2))
        (cond (t14.2 == 3)
          ((loop (fun z => spec_l9Any_l1 z.1 z.2.1 z.2.2) (0, t12.2.1, t12.2.2)).bind fun d =>
          some (t14.1, d, w64 (1 + t8.2)))
          (some (t14.1, t12.2, w64 (1 + t8.2))))))
noncomputable def F_spec_l9Any : Fn := ⟨[.ptr cL1Cur none], [.val true cVtab (some true), .val false (.one (.int .i64)) (some true)], fun a => spec_l9Any a⟩
def a_spec_l9Any : List (Nat × LoopAnn) := [(1, ⟨⟨[(6, false, [.dat (.int .i64)])], [(528384, .box [.own 1000001000, .own 1000001001]), (1000001000, .root cVrow true), (1000001001, .root (.one (.int .i64)) true)]⟩,
    ⟨[], [(528384, .box [.own 1000001300, .own 1000001301]), (1000001300, .root cVrow true), (1000001301, .root (.one (.int .i64)) true)]⟩, none⟩)]
theorem e_spec_l9Any : fnDen ⟨tis, fns_49, [], false⟩ a_spec_l9Any Tryz.f50 (codeOf Tryz.f50) [.ptr cL1Cur none] [.val true cVtab (some true), .val false (.one (.int .i64)) (some true)] = fun a => spec_l9Any a := by kernel_rfl
theorem m_spec_l9Any : Meets Tryz.prog 50 F_spec_l9Any := by
  have h := meets_of (ann := a_spec_l9Any) (ps := [.ptr cL1Cur none]) (rs := [.val true cVtab (some true), .val false (.one (.int .i64)) (some true)]) g_49 mixed Tryz.func50 (by kernel_rfl) (by kernel_rfl : Tryz.f50.body = some (codeOf Tryz.f50))
  rw [e_spec_l9Any] at h
  exact h
noncomputable def fns_50 : List (FuncId × Fn) := (50, F_spec_l9Any) :: fns_49
theorem g_50 : Good Tryz.prog ⟨tis, fns_50, [], false⟩ := g_49.cons m_spec_l9Any
noncomputable def spec_l11Any (c0 : L1Cur) : Option (L1Cur × Bridge) :=
  (spec_l11Draw c0).bind fun t5 =>
  (spec_l1Below t5.1 16).bind fun t7 =>
  cond (t7.2 == 0)
    ((spec_l1Int t7.1 ([0, 99, 100] : List Int)).bind fun t12 =>
    some (t12.1, (t12.2, t5.2.2.1, t5.2.2.2.1, t5.2.2.2.2.1, t5.2.2.2.2.2.1, t5.2.2.2.2.2.2.1, t5.2.2.2.2.2.2.2.1, t5.2.2.2.2.2.2.2.2.1, t5.2.2.2.2.2.2.2.2.2.1, t5.2.2.2.2.2.2.2.2.2.2.1, t5.2.2.2.2.2.2.2.2.2.2.2)))
    (cond (t7.2 == 1)
      ((spec_l1Str t7.1 ([[116, 101, 110, 45, 98, 121, 116, 101, 115, 45], [101, 108, 101, 118, 101, 110, 45, 98, 121, 116, 101]] : List (List UInt8))).bind fun t18 =>
      some (t18.1, (t5.2.1, t18.2, t5.2.2.2.1, t5.2.2.2.2.1, t5.2.2.2.2.2.1, t5.2.2.2.2.2.2.1, t5.2.2.2.2.2.2.2.1, t5.2.2.2.2.2.2.2.2.1, t5.2.2.2.2.2.2.2.2.2.1, t5.2.2.2.2.2.2.2.2.2.2.1, t5.2.2.2.2.2.2.2.2.2.2.2)))
      (cond (t7.2 == 2)
        ((spec_l10Any t7.1).bind fun t23 =>
        some (t23.1, (t5.2.1, t5.2.2.1, t23.2, t5.2.2.2.2.1, t5.2.2.2.2.2.1, t5.2.2.2.2.2.2.1, t5.2.2.2.2.2.2.2.1, t5.2.2.2.2.2.2.2.2.1, t5.2.2.2.2.2.2.2.2.2.1, t5.2.2.2.2.2.2.2.2.2.2.1, t5.2.2.2.2.2.2.2.2.2.2.2)))
        (cond (t7.2 == 3)
          ((spec_l8Any t7.1).bind fun t28 =>
          some (t28.1, (t5.2.1, t5.2.2.1, t5.2.2.2.1, t28.2, t5.2.2.2.2.2.1, t5.2.2.2.2.2.2.1, t5.2.2.2.2.2.2.2.1, t5.2.2.2.2.2.2.2.2.1, t5.2.2.2.2.2.2.2.2.2.1, t5.2.2.2.2.2.2.2.2.2.2.1, t5.2.2.2.2.2.2.2.2.2.2.2)))
          (cond (t7.2 == 4)
            ((spec_l9Any t7.1).bind fun t34 =>
            some (t34.1, (t5.2.1, t5.2.2.1, t5.2.2.2.1, t5.2.2.2.2.1, t34.2.1.1, t34.2.1.2, t5.2.2.2.2.2.2.2.1, t5.2.2.2.2.2.2.2.2.1, t5.2.2.2.2.2.2.2.2.2.1, t5.2.2.2.2.2.2.2.2.2.2.1, t5.2.2.2.2.2.2.2.2.2.2.2)))
            (cond (t7.2 == 5)
              ((spec_l1Int t7.1 ([(-1), 1000000, 1000001] : List Int)).bind fun t42 =>
              some (t42.1, (t5.2.1, t5.2.2.1, t5.2.2.2.1, t5.2.2.2.2.1, t5.2.2.2.2.2.1, t5.2.2.2.2.2.2.1, t5.2.2.2.2.2.2.2.1, t5.2.2.2.2.2.2.2.2.1, t5.2.2.2.2.2.2.2.2.2.1, t42.2, t5.2.2.2.2.2.2.2.2.2.2.2)))
              (some (t7.1, t5.2)))))))
noncomputable def F_spec_l11Any : Fn := ⟨[.ptr cL1Cur none], [.val true cBridge (some true)], fun a => spec_l11Any a⟩
def a_spec_l11Any : List (Nat × LoopAnn) := []
theorem e_spec_l11Any : fnDen ⟨tis, fns_50, [], false⟩ a_spec_l11Any Tryz.f22 (codeOf Tryz.f22) [.ptr cL1Cur none] [.val true cBridge (some true)] = fun a => spec_l11Any a := by kernel_rfl
theorem m_spec_l11Any : Meets Tryz.prog 22 F_spec_l11Any := by
  have h := meets_of (ann := a_spec_l11Any) (ps := [.ptr cL1Cur none]) (rs := [.val true cBridge (some true)]) g_50 mixed Tryz.func22 (by kernel_rfl) (by kernel_rfl : Tryz.f22.body = some (codeOf Tryz.f22))
  rw [e_spec_l11Any] at h
  exact h
noncomputable def fns_22 : List (FuncId × Fn) := (22, F_spec_l11Any) :: fns_50
theorem g_22 : Good Tryz.prog ⟨tis, fns_22, [], false⟩ := g_50.cons m_spec_l11Any
noncomputable def spec_DrawRolesText (code0 : List Int) : Option Bridge :=
  (spec_l1New code0).bind fun t5 =>
  (spec_l11Any t5).bind fun t7 =>
  some t7.2
noncomputable def F_spec_DrawRolesText : Fn := ⟨[.val false (.one (.sl (.one (.int .u8)))) false], [.val true cBridge (some true)], fun a => spec_DrawRolesText a⟩
def a_spec_DrawRolesText : List (Nat × LoopAnn) := []
theorem e_spec_DrawRolesText : fnDen ⟨tis, fns_22, [], false⟩ a_spec_DrawRolesText Tryz.f7 (codeOf Tryz.f7) [.val false (.one (.sl (.one (.int .u8)))) false] [.val true cBridge (some true)] = fun a => spec_DrawRolesText a := by kernel_rfl
theorem m_spec_DrawRolesText : Meets Tryz.prog 7 F_spec_DrawRolesText := by
  have h := meets_of (ann := a_spec_DrawRolesText) (ps := [.val false (.one (.sl (.one (.int .u8)))) false]) (rs := [.val true cBridge (some true)]) g_22 mixed Tryz.func7 (by kernel_rfl) (by kernel_rfl : Tryz.f7.body = some (codeOf Tryz.f7))
  rw [e_spec_DrawRolesText] at h
  exact h
noncomputable def fns_7 : List (FuncId × Fn) := (7, F_spec_DrawRolesText) :: fns_22
theorem g_7 : Good Tryz.prog ⟨tis, fns_7, [], false⟩ := g_22.cons m_spec_DrawRolesText
noncomputable def impl_LessVec (a0 : Vec) (b1 : Vec) : Option Bool :=
  cond (a0.1 != b1.1)
    (some (decide (a0.1 < b1.1)))
    (cond (a0.2.1 != b1.2.1)
      (some (decide (a0.2.1 < b1.2.1)))
      (cond (a0.2.2.2.1 != b1.2.2.2.1)
        (let t4 := decide (a0.2.2.2.1 < b1.2.2.2.1)
        some t4)
        (let t4_1 := decide (a0.2.2.2.2 < b1.2.2.2.2)
        some t4_1)))
noncomputable def F_impl_LessVec : Fn := ⟨[.val true cVec false, .val true cVec false], [.val false (.one .bool) (some true)], fun a => impl_LessVec a.1 a.2⟩
def a_impl_LessVec : List (Nat × LoopAnn) := []
theorem e_impl_LessVec : fnDen ⟨tis, fns_7, [], false⟩ a_impl_LessVec Tryz.f52 (codeOf Tryz.f52) [.val true cVec false, .val true cVec false] [.val false (.one .bool) (some true)] = fun a => impl_LessVec a.1 a.2 := by kernel_rfl
theorem m_impl_LessVec : Meets Tryz.prog 52 F_impl_LessVec := by
  have h := meets_of (ann := a_impl_LessVec) (ps := [.val true cVec false, .val true cVec false]) (rs := [.val false (.one .bool) (some true)]) g_7 mixed Tryz.func52 (by kernel_rfl) (by kernel_rfl : Tryz.f52.body = some (codeOf Tryz.f52))
  rw [e_impl_LessVec] at h
  exact h
noncomputable def fns_52 : List (FuncId × Fn) := (52, F_impl_LessVec) :: fns_7
theorem g_52 : Good Tryz.prog ⟨tis, fns_52, [], false⟩ := g_7.cons m_impl_LessVec
noncomputable def impl_VecOk (v0 : Vec) : Option Bool :=
  (impl_in v0.1 1 99).bind fun t5 =>
  (cond t5
    ((impl_in v0.2.1 0 100000).bind fun t9 =>
    some t9)
    (some false)).bind fun t10 =>
  (cond t10
    ((impl_in v0.2.2.1 0 10).bind fun t14 =>
    some t14)
    (some false)).bind fun t15 =>
  (cond t15
    ((impl_in v0.2.2.2.1 1 99).bind fun t19 =>
    some t19)
    (some false)).bind fun t20 =>
  (cond t20
    ((impl_in v0.2.2.2.2 0 7).bind fun t24 =>
    some t24)
    (some false)).bind fun t25 =>
  some t25
noncomputable def F_impl_VecOk : Fn := ⟨[.val true cVec false], [.val false (.one .bool) (some true)], fun a => impl_VecOk a⟩
def a_impl_VecOk : List (Nat × LoopAnn) := []
theorem e_impl_VecOk : fnDen ⟨tis, fns_52, [], false⟩ a_impl_VecOk Tryz.f97 (codeOf Tryz.f97) [.val true cVec false] [.val false (.one .bool) (some true)] = fun a => impl_VecOk a := by kernel_rfl
theorem m_impl_VecOk : Meets Tryz.prog 97 F_impl_VecOk := by
  have h := meets_of (ann := a_impl_VecOk) (ps := [.val true cVec false]) (rs := [.val false (.one .bool) (some true)]) g_52 mixed Tryz.func97 (by kernel_rfl) (by kernel_rfl : Tryz.f97.body = some (codeOf Tryz.f97))
  rw [e_impl_VecOk] at h
  exact h
noncomputable def fns_97 : List (FuncId × Fn) := (97, F_impl_VecOk) :: fns_52
theorem g_97 : Good Tryz.prog ⟨tis, fns_97, [], false⟩ := g_52.cons m_impl_VecOk
noncomputable def impl_StepVec (v0 : Vec) (cost1 : Int) : Option (Vec × Bool) :=
  (impl_VecOk v0).bind fun t8 =>
  (cond (!t8)
    (some true)
    ((impl_in cost1 1 1000).bind fun t12 =>
    some (!t12))).bind fun t14 =>
  cond t14
    (some (v0, false))
    ((impl_VecOk (v0.1, w64 (v0.2.1 + cost1), w64 (v0.2.2.1 + 1), v0.2.2.2.1, v0.2.2.2.2)).bind fun t27 =>
    cond (!t27)
      (some (v0, false))
      (some ((v0.1, w64 (v0.2.1 + cost1), w64 (v0.2.2.1 + 1), v0.2.2.2.1, v0.2.2.2.2), true)))
noncomputable def F_impl_StepVec : Fn := ⟨[.val true cVec false, .val false (.one (.int .i64)) false], [.val true cVec (some true), .val false (.one .bool) (some true)], fun a => impl_StepVec a.1 a.2⟩
def a_impl_StepVec : List (Nat × LoopAnn) := []
theorem e_impl_StepVec : fnDen ⟨tis, fns_97, [], false⟩ a_impl_StepVec Tryz.f75 (codeOf Tryz.f75) [.val true cVec false, .val false (.one (.int .i64)) false] [.val true cVec (some true), .val false (.one .bool) (some true)] = fun a => impl_StepVec a.1 a.2 := by kernel_rfl
theorem m_impl_StepVec : Meets Tryz.prog 75 F_impl_StepVec := by
  have h := meets_of (ann := a_impl_StepVec) (ps := [.val true cVec false, .val false (.one (.int .i64)) false]) (rs := [.val true cVec (some true), .val false (.one .bool) (some true)]) g_97 mixed Tryz.func75 (by kernel_rfl) (by kernel_rfl : Tryz.f75.body = some (codeOf Tryz.f75))
  rw [e_impl_StepVec] at h
  exact h
noncomputable def fns_75 : List (FuncId × Fn) := (75, F_impl_StepVec) :: fns_97
theorem g_75 : Good Tryz.prog ⟨tis, fns_75, [], false⟩ := g_97.cons m_impl_StepVec
noncomputable def impl_BestVec_l0 (p0 : Int) (i1 : List Pt) (t7 : Int) (t18 : Int) (b0 : Int) (b1 : Int) (b2 : Int) (b3 : Int) (b4 : Int) (b0_1 : Int) (b1_1 : Int) (b2_1 : Int) (b3_1 : Int) (b4_1 : Int) : Option ((Int × Int × Int × Int × Int × Int × Int × Int × Int × Int × Int × Int) ⊕ (Int × Int × Int × Int × Int × Int × Int × Int × Int × Int × Int)) :=
  cond (decide (t18 < (i1.length : Int)))
    ((at? i1 t18).bind fun x21 =>
    (cond (!x21.1) (some true) (some (!x21.2.2.1))).bind fun t30 =>
    cond t30
      (some (.inl (t7, w64 (t18 + 1), b0, b1, b2, b3, b4, b0_1, b1_1, b2_1, b3_1, b4_1)))
      ((impl_StepVec x21.2.2.2 x21.2.1).bind fun t36 =>
      (cond t36.2 (some (decide (t36.1.1 < p0))) (some false)).bind fun t45 =>
      (cond t45
        ((cond (decide (t7 < 0))
          (some true)
          ((impl_LessVec t36.1 (b0_1, b1_1, b2_1, b3_1, b4_1)).bind fun t52 =>
          some t52)).bind fun t53 =>
        some t53)
        (some false)).bind fun t54 =>
      cond t54
        (some (.inl (t18, w64 (t18 + 1), t36.1.1, t36.1.2.1, t36.1.2.2.1, p0, 0, t36.1.1, t36.1.2.1, t36.1.2.2.1, t36.1.2.2.2.1, t36.1.2.2.2.2)))
        (some (.inl (t7, w64 (t18 + 1), b0, b1, b2, b3, b4, b0_1, b1_1, b2_1, b3_1, b4_1)))))
    (some (.inr (t7, b0, b1, b2, b3, b4, b0_1, b1_1, b2_1, b3_1, b4_1)))
noncomputable def impl_BestVec (p0 : Int) (i1 : List Pt) : Option (Vec × Int) :=
  (loop (fun z => impl_BestVec_l0 p0 i1 z.1 z.2.1 z.2.2.1 z.2.2.2.1 z.2.2.2.2.1 z.2.2.2.2.2.1 z.2.2.2.2.2.2.1 z.2.2.2.2.2.2.2.1 z.2.2.2.2.2.2.2.2.1 z.2.2.2.2.2.2.2.2.2.1 z.2.2.2.2.2.2.2.2.2.2.1 z.2.2.2.2.2.2.2.2.2.2.2) ((-1), 0, p0, 0, 0, p0, 0, 0, 0, 0, 0, 0)).bind fun d =>
  some ((d.2.1, d.2.2.1, d.2.2.2.1, d.2.2.2.2.1, d.2.2.2.2.2.1), d.1)
noncomputable def F_impl_BestVec : Fn := ⟨[.val false (.one (.int .i64)) false, .val false (.one (.sl cPt)) false], [.val true cVec (some true), .val false (.one (.int .i64)) (some true)], fun a => impl_BestVec a.1 a.2⟩
def a_impl_BestVec : List (Nat × LoopAnn) := [(0, ⟨⟨[(7, false, [.dat (.int .i64)]), (18, false, [.dat (.int .i64)]), (27, false, [.undef]), (28, false, [.undef]), (29, false, [.undef]), (41, false, [.undef]), (42, false, [.undef]), (43, false, [.undef]), (44, false, [.undef]), (47, false, [.undef]), (48, false, [.undef]), (49, false, [.undef]), (50, false, [.undef]), (51, false, [.undef]), (52, false, [.undef]), (53, false, [.undef])], [(266240, .box [.dat (.int .i64), .dat (.int .i64), .dat (.int .i64), .dat (.int .i64), .dat (.int .i64)]), (525312, .box [.dat (.int .i64), .dat (.int .i64), .dat (.int .i64), .dat (.int .i64), .dat (.int .i64)])]⟩,
    ⟨[(7, false, [.dat (.int .i64)])], [(266240, .box [.dat (.int .i64), .dat (.int .i64), .dat (.int .i64), .dat (.int .i64), .dat (.int .i64)]), (525312, .box [.dat (.int .i64), .dat (.int .i64), .dat (.int .i64), .dat (.int .i64), .dat (.int .i64)])]⟩, none⟩)]
theorem e_impl_BestVec : fnDen ⟨tis, fns_75, [], false⟩ a_impl_BestVec Tryz.f51 (codeOf Tryz.f51) [.val false (.one (.int .i64)) false, .val false (.one (.sl cPt)) false] [.val true cVec (some true), .val false (.one (.int .i64)) (some true)] = fun a => impl_BestVec a.1 a.2 := by kernel_rfl
theorem m_impl_BestVec : Meets Tryz.prog 51 F_impl_BestVec := by
  have h := meets_of (ann := a_impl_BestVec) (ps := [.val false (.one (.int .i64)) false, .val false (.one (.sl cPt)) false]) (rs := [.val true cVec (some true), .val false (.one (.int .i64)) (some true)]) g_75 mixed Tryz.func51 (by kernel_rfl) (by kernel_rfl : Tryz.f51.body = some (codeOf Tryz.f51))
  rw [e_impl_BestVec] at h
  exact h
noncomputable def fns_51 : List (FuncId × Fn) := (51, F_impl_BestVec) :: fns_75
theorem g_51 : Good Tryz.prog ⟨tis, fns_51, [], false⟩ := g_75.cons m_impl_BestVec
noncomputable def impl_SayVec (id0 : Int) (l1 : List Pt) (port2 : Int) : Option Vec :=
  (impl_BestVec id0 l1).bind fun t12 =>
  some (t12.1.1, t12.1.2.1, t12.1.2.2.1, t12.1.2.2.2.1, port2)
noncomputable def F_impl_SayVec : Fn := ⟨[.val false (.one (.int .i64)) false, .val false (.one (.sl cPt)) false, .val false (.one (.int .i64)) false], [.val true cVec (some true)], fun a => impl_SayVec a.1 a.2.1 a.2.2⟩
def a_impl_SayVec : List (Nat × LoopAnn) := []
theorem e_impl_SayVec : fnDen ⟨tis, fns_51, [], false⟩ a_impl_SayVec Tryz.f53 (codeOf Tryz.f53) [.val false (.one (.int .i64)) false, .val false (.one (.sl cPt)) false, .val false (.one (.int .i64)) false] [.val true cVec (some true)] = fun a => impl_SayVec a.1 a.2.1 a.2.2 := by kernel_rfl
theorem m_impl_SayVec : Meets Tryz.prog 53 F_impl_SayVec := by
  have h := meets_of (ann := a_impl_SayVec) (ps := [.val false (.one (.int .i64)) false, .val false (.one (.sl cPt)) false, .val false (.one (.int .i64)) false]) (rs := [.val true cVec (some true)]) g_51 mixed Tryz.func53 (by kernel_rfl) (by kernel_rfl : Tryz.f53.body = some (codeOf Tryz.f53))
  rw [e_impl_SayVec] at h
  exact h
noncomputable def fns_53 : List (FuncId × Fn) := (53, F_impl_SayVec) :: fns_51
theorem g_53 : Good Tryz.prog ⟨tis, fns_53, [], false⟩ := g_51.cons m_impl_SayVec
noncomputable def impl_RoleOf (id0 : Int) (l1 : List Pt) (port2 : Int) : Option Int :=
  (impl_in port2 0 (w64 ((l1.length : Int) - 1))).bind fun t13 =>
  (cond (!t13)
    (some true)
    ((at? l1 port2).bind fun x18 =>
    some (!x18.1))).bind fun t22 =>
  cond t22
    (some 4)
    ((impl_BestVec id0 l1).bind fun t26 =>
    cond (t26.2 == port2)
      (some 1)
      ((at? l1 port2).bind fun x36 =>
      (cond (!x36.2.2.1)
        (some true)
        ((impl_SayVec id0 l1 port2).bind fun t44 =>
        (at? l1 port2).bind fun x47 =>
        (impl_LessVec t44 x47.2.2.2).bind fun t50 =>
        some t50)).bind fun t51 =>
      cond t51 (some 2) (some 3)))
noncomputable def F_impl_RoleOf : Fn := ⟨[.val false (.one (.int .i64)) false, .val false (.one (.sl cPt)) false, .val false (.one (.int .i64)) false], [.val false (.one (.int .i64)) (some true)], fun a => impl_RoleOf a.1 a.2.1 a.2.2⟩
def a_impl_RoleOf : List (Nat × LoopAnn) := []
theorem e_impl_RoleOf : fnDen ⟨tis, fns_53, [], false⟩ a_impl_RoleOf Tryz.f23 (codeOf Tryz.f23) [.val false (.one (.int .i64)) false, .val false (.one (.sl cPt)) false, .val false (.one (.int .i64)) false] [.val false (.one (.int .i64)) (some true)] = fun a => impl_RoleOf a.1 a.2.1 a.2.2 := by kernel_rfl
theorem m_impl_RoleOf : Meets Tryz.prog 23 F_impl_RoleOf := by
  have h := meets_of (ann := a_impl_RoleOf) (ps := [.val false (.one (.int .i64)) false, .val false (.one (.sl cPt)) false, .val false (.one (.int .i64)) false]) (rs := [.val false (.one (.int .i64)) (some true)]) g_53 mixed Tryz.func23 (by kernel_rfl) (by kernel_rfl : Tryz.f23.body = some (codeOf Tryz.f23))
  rw [e_impl_RoleOf] at h
  exact h
noncomputable def fns_23 : List (FuncId × Fn) := (23, F_impl_RoleOf) :: fns_53
theorem g_23 : Good Tryz.prog ⟨tis, fns_23, [], false⟩ := g_53.cons m_impl_RoleOf
noncomputable def impl_RolesText_l0 (b0 : Bridge) (t8 : Int) (out3 : List (List UInt8)) : Option ((Int × List (List UInt8)) ⊕ (List (List UInt8))) :=
  cond (decide (t8 < (b0.2.2.1.length : Int)))
    ((impl_RoleOf b0.1 b0.2.2.1 t8).bind fun t18 =>
    (ix ([[114, 111, 111, 116], [116, 111, 108, 100], [105, 100, 108, 101], [100, 111, 119, 110]] : List (List UInt8)).length (w64 (t18 - 1))).bind fun j20 =>
    (([[114, 111, 111, 116], [116, 111, 108, 100], [105, 100, 108, 101], [100, 111, 119, 110]] : List (List UInt8))[j20]?).bind fun x21 =>
    (app out3 [x21]).bind fun zs23 =>
    some (.inl (w64 (t8 + 1), zs23)))
    (some (.inr out3))
noncomputable def impl_RolesText (b0 : Bridge) : Option (List UInt8) :=
  (loop (fun z => impl_RolesText_l0 b0 z.1 z.2) (0, [])).bind fun d =>
  (libJoin d [32]).bind fun t26 =>
  some t26
noncomputable def F_impl_RolesText : Fn := ⟨[.val true cBridge false], [.val false (.one .str) (some true)], fun a => impl_RolesText a⟩
def a_impl_RolesText : List (Nat × LoopAnn) := [(0, ⟨⟨[(3, false, [.own 1000000000]), (8, false, [.dat (.int .i64)])], [(1000000000, .root (.one .str) true)]⟩,
    ⟨[(3, false, [.own 1000000300])], [(1000000300, .root (.one .str) true)]⟩, none⟩)]
theorem e_impl_RolesText : fnDen ⟨tis, fns_23, [], false⟩ a_impl_RolesText Tryz.f8 (codeOf Tryz.f8) [.val true cBridge false] [.val false (.one .str) (some true)] = fun a => impl_RolesText a := by kernel_rfl
theorem m_impl_RolesText : Meets Tryz.prog 8 F_impl_RolesText := by
  have h := meets_of (ann := a_impl_RolesText) (ps := [.val true cBridge false]) (rs := [.val false (.one .str) (some true)]) g_23 mixed Tryz.func8 (by kernel_rfl) (by kernel_rfl : Tryz.f8.body = some (codeOf Tryz.f8))
  rw [e_impl_RolesText] at h
  exact h
noncomputable def fns_8 : List (FuncId × Fn) := (8, F_impl_RolesText) :: fns_23
theorem g_8 : Good Tryz.prog ⟨tis, fns_8, [], false⟩ := g_23.cons m_impl_RolesText
noncomputable def spec_DrawValText (code0 : List Int) : Option Val :=
  (spec_l1New code0).bind fun t5 =>
  (spec_l3Any t5).bind fun t7 =>
  some t7.2
noncomputable def F_spec_DrawValText : Fn := ⟨[.val false (.one (.sl (.one (.int .u8)))) false], [.val true cVal (some true)], fun a => spec_DrawValText a⟩
def a_spec_DrawValText : List (Nat × LoopAnn) := []
theorem e_spec_DrawValText : fnDen ⟨tis, fns_8, [], false⟩ a_spec_DrawValText Tryz.f9 (codeOf Tryz.f9) [.val false (.one (.sl (.one (.int .u8)))) false] [.val true cVal (some true)] = fun a => spec_DrawValText a := by kernel_rfl
theorem m_spec_DrawValText : Meets Tryz.prog 9 F_spec_DrawValText := by
  have h := meets_of (ann := a_spec_DrawValText) (ps := [.val false (.one (.sl (.one (.int .u8)))) false]) (rs := [.val true cVal (some true)]) g_8 mixed Tryz.func9 (by kernel_rfl) (by kernel_rfl : Tryz.f9.body = some (codeOf Tryz.f9))
  rw [e_spec_DrawValText] at h
  exact h
noncomputable def fns_9 : List (FuncId × Fn) := (9, F_spec_DrawValText) :: fns_8
theorem g_9 : Good Tryz.prog ⟨tis, fns_9, [], false⟩ := g_8.cons m_spec_DrawValText
noncomputable def spec_DrawBindText (code0 : List Int) : Option Bind :=
  (spec_l1New code0).bind fun t5 =>
  (spec_l2Any t5).bind fun t7 =>
  (spec_l3Any t7.1).bind fun t9 =>
  some (t7.2, t9.2.1, t9.2.2.1, t9.2.2.2.1, t9.2.2.2.2)
noncomputable def F_spec_DrawBindText : Fn := ⟨[.val false (.one (.sl (.one (.int .u8)))) false], [.val true cBind (some true)], fun a => spec_DrawBindText a⟩
def a_spec_DrawBindText : List (Nat × LoopAnn) := []
theorem e_spec_DrawBindText : fnDen ⟨tis, fns_9, [], false⟩ a_spec_DrawBindText Tryz.f10 (codeOf Tryz.f10) [.val false (.one (.sl (.one (.int .u8)))) false] [.val true cBind (some true)] = fun a => spec_DrawBindText a := by kernel_rfl
theorem m_spec_DrawBindText : Meets Tryz.prog 10 F_spec_DrawBindText := by
  have h := meets_of (ann := a_spec_DrawBindText) (ps := [.val false (.one (.sl (.one (.int .u8)))) false]) (rs := [.val true cBind (some true)]) g_9 mixed Tryz.func10 (by kernel_rfl) (by kernel_rfl : Tryz.f10.body = some (codeOf Tryz.f10))
  rw [e_spec_DrawBindText] at h
  exact h
noncomputable def fns_10 : List (FuncId × Fn) := (10, F_spec_DrawBindText) :: fns_9
theorem g_10 : Good Tryz.prog ⟨tis, fns_10, [], false⟩ := g_9.cons m_spec_DrawBindText
noncomputable def spec_OidOk_l0 (o0 : List Int) (i3 : Int) : Option (Int ⊕ (Unit ⊕ Bool)) :=
  cond (decide (i3 < (o0.length : Int)))
    ((at? o0 i3).bind fun x12 =>
    (spec_l1In x12 0 100000).bind fun t14 =>
    cond (!t14) (some (.inr (.inr false))) (some (.inl (w64 (i3 + 1)))))
    (some (.inr (.inl ())))
noncomputable def spec_OidOk (o0 : List Int) : Option Bool :=
  (loop (fun z => spec_OidOk_l0 o0 z) 0).bind (Sum.elim (fun d =>
    (spec_l1In (o0.length : Int) 1 10).bind fun t18 =>
    some t18) (fun r => some r))
noncomputable def F_spec_OidOk : Fn := ⟨[.val false (.one (.sl (.one (.int .i64)))) false], [.val false (.one .bool) (some true)], fun a => spec_OidOk a⟩
def a_spec_OidOk : List (Nat × LoopAnn) := [(0, ⟨⟨[(3, false, [.dat (.int .i64)])], []⟩,
    ⟨[], []⟩, some ⟨[(2, false, [.dat .bool])], []⟩⟩)]
theorem e_spec_OidOk : fnDen ⟨tis, fns_10, [], false⟩ a_spec_OidOk Tryz.f28 (codeOf Tryz.f28) [.val false (.one (.sl (.one (.int .i64)))) false] [.val false (.one .bool) (some true)] = fun a => spec_OidOk a := by kernel_rfl
theorem m_spec_OidOk : Meets Tryz.prog 28 F_spec_OidOk := by
  have h := meets_of (ann := a_spec_OidOk) (ps := [.val false (.one (.sl (.one (.int .i64)))) false]) (rs := [.val false (.one .bool) (some true)]) g_10 mixed Tryz.func28 (by kernel_rfl) (by kernel_rfl : Tryz.f28.body = some (codeOf Tryz.f28))
  rw [e_spec_OidOk] at h
  exact h
noncomputable def fns_28 : List (FuncId × Fn) := (28, F_spec_OidOk) :: fns_10
theorem g_28 : Good Tryz.prog ⟨tis, fns_28, [], false⟩ := g_10.cons m_spec_OidOk
noncomputable def spec_ValOk (p0 : Val) : Option Bool :=
  cond (p0.1 == 5)
    (cond (p0.1 == 5)
      ((cond (p0.2.1 == 0) (some (p0.2.2.1 == [])) (some false)).bind fun t16 =>
      (cond t16 (some ((p0.2.2.2.length : Int) == 0)) (some false)).bind fun t22 =>
      some t22)
      (cond (p0.1 == 2)
        ((spec_l1Clip p0.2.1).bind fun t27 =>
        (cond (t27 == p0.2.1) (some (p0.2.2.1 == [])) (some false)).bind fun t35 =>
        (cond t35 (some ((p0.2.2.2.length : Int) == 0)) (some false)).bind fun t41 =>
        some t41)
        (cond (p0.1 == 4)
          ((cond (decide ((p0.2.2.1.length : Int) ≤ 20)) (some (p0.2.1 == 0)) (some false)).bind fun t52 =>
          (cond t52 (some ((p0.2.2.2.length : Int) == 0)) (some false)).bind fun t58 =>
          some t58)
          (cond (p0.1 == 6)
            ((spec_OidOk p0.2.2.2).bind fun t63 =>
            (cond t63 (some (p0.2.1 == 0)) (some false)).bind fun t68 =>
            (cond t68 (some (p0.2.2.1 == [])) (some false)).bind fun t73 =>
            some t73)
            (some false)))))
    (cond (p0.1 == 128)
      (cond (p0.1 == 128)
        ((cond (p0.2.1 == 0) (some (p0.2.2.1 == [])) (some false)).bind fun t16_1 =>
        (cond t16_1 (some ((p0.2.2.2.length : Int) == 0)) (some false)).bind fun t22_1 =>
        some t22_1)
        (cond (p0.1 == 2)
          ((spec_l1Clip p0.2.1).bind fun t27_1 =>
          (cond (t27_1 == p0.2.1) (some (p0.2.2.1 == [])) (some false)).bind fun t35_1 =>
          (cond t35_1 (some ((p0.2.2.2.length : Int) == 0)) (some false)).bind fun t41_1 =>
          some t41_1)
          (cond (p0.1 == 4)
            ((cond (decide ((p0.2.2.1.length : Int) ≤ 20)) (some (p0.2.1 == 0)) (some false)).bind fun t52_1 =>
            (cond t52_1 (some ((p0.2.2.2.length : Int) == 0)) (some false)).bind fun t58_1 =>
            some t58_1)
            (cond (p0.1 == 6)
              ((spec_OidOk p0.2.2.2).bind fun t63_1 =>
              (cond t63_1 (some (p0.2.1 == 0)) (some false)).bind fun t68_1 =>
              (cond t68_1 (some (p0.2.2.1 == [])) (some false)).bind fun t73_1 =>
              some t73_1)
              (some false)))))
      (cond (p0.1 == 130)
        ((cond (p0.2.1 == 0) (some (p0.2.2.1 == [])) (some false)).bind fun t16_2 =>
        (cond t16_2 (some ((p0.2.2.2.length : Int) == 0)) (some false)).bind fun t22_2 =>
        some t22_2)
        (cond (p0.1 == 2)
          ((spec_l1Clip p0.2.1).bind fun t27_2 =>
          (cond (t27_2 == p0.2.1) (some (p0.2.2.1 == [])) (some false)).bind fun t35_2 =>
          (cond t35_2 (some ((p0.2.2.2.length : Int) == 0)) (some false)).bind fun t41_2 =>
          some t41_2)
          (cond (p0.1 == 4)
            ((cond (decide ((p0.2.2.1.length : Int) ≤ 20)) (some (p0.2.1 == 0)) (some false)).bind fun t52_2 =>
            (cond t52_2 (some ((p0.2.2.2.length : Int) == 0)) (some false)).bind fun t58_2 =>
            some t58_2)
            (cond (p0.1 == 6)
              ((spec_OidOk p0.2.2.2).bind fun t63_2 =>
              (cond t63_2 (some (p0.2.1 == 0)) (some false)).bind fun t68_2 =>
              (cond t68_2 (some (p0.2.2.1 == [])) (some false)).bind fun t73_2 =>
              some t73_2)
              (some false))))))
noncomputable def F_spec_ValOk : Fn := ⟨[.val true cVal false], [.val false (.one .bool) (some true)], fun a => spec_ValOk a⟩
def a_spec_ValOk : List (Nat × LoopAnn) := []
theorem e_spec_ValOk : fnDen ⟨tis, fns_28, [], false⟩ a_spec_ValOk Tryz.f29 (codeOf Tryz.f29) [.val true cVal false] [.val false (.one .bool) (some true)] = fun a => spec_ValOk a := by kernel_rfl
theorem m_spec_ValOk : Meets Tryz.prog 29 F_spec_ValOk := by
  have h := meets_of (ann := a_spec_ValOk) (ps := [.val true cVal false]) (rs := [.val false (.one .bool) (some true)]) g_28 mixed Tryz.func29 (by kernel_rfl) (by kernel_rfl : Tryz.f29.body = some (codeOf Tryz.f29))
  rw [e_spec_ValOk] at h
  exact h
noncomputable def fns_29 : List (FuncId × Fn) := (29, F_spec_ValOk) :: fns_28
theorem g_29 : Good Tryz.prog ⟨tis, fns_29, [], false⟩ := g_28.cons m_spec_ValOk
noncomputable def spec_l4Kind (k0 : Int) : Option Bool :=
  (cond (k0 == 160) (some true) (some (k0 == 161))).bind fun t8 =>
  (cond t8 (some true) (some (k0 == 162))).bind fun t12 =>
  (cond t12 (some true) (some (k0 == 163))).bind fun t16 =>
  (cond t16 (some true) (some (k0 == 165))).bind fun t20 =>
  some t20
noncomputable def F_spec_l4Kind : Fn := ⟨[.val false (.one (.int .i64)) false], [.val false (.one .bool) (some true)], fun a => spec_l4Kind a⟩
def a_spec_l4Kind : List (Nat × LoopAnn) := []
theorem e_spec_l4Kind : fnDen ⟨tis, fns_29, [], false⟩ a_spec_l4Kind Tryz.f30 (codeOf Tryz.f30) [.val false (.one (.int .i64)) false] [.val false (.one .bool) (some true)] = fun a => spec_l4Kind a := by kernel_rfl
theorem m_spec_l4Kind : Meets Tryz.prog 30 F_spec_l4Kind := by
  have h := meets_of (ann := a_spec_l4Kind) (ps := [.val false (.one (.int .i64)) false]) (rs := [.val false (.one .bool) (some true)]) g_29 mixed Tryz.func30 (by kernel_rfl) (by kernel_rfl : Tryz.f30.body = some (codeOf Tryz.f30))
  rw [e_spec_l4Kind] at h
  exact h
noncomputable def fns_30 : List (FuncId × Fn) := (30, F_spec_l4Kind) :: fns_29
theorem g_30 : Good Tryz.prog ⟨tis, fns_30, [], false⟩ := g_29.cons m_spec_l4Kind
noncomputable def spec_PduOk_l0 (p0 : Pdu) (t3 : Int) : Option (Int ⊕ (Unit ⊕ Bool)) :=
  cond (decide (t3 < (p0.2.2.2.2.length : Int)))
    ((at? p0.2.2.2.2 t3).bind fun x14 =>
    (spec_OidOk x14.1).bind fun t17 =>
    (cond (!t17)
      (some true)
      ((at? p0.2.2.2.2 t3).bind fun x23 =>
      (spec_ValOk x23.2).bind fun t26 =>
      some (!t26))).bind fun t28 =>
    cond t28 (some (.inr (.inr false))) (some (.inl (w64 (t3 + 1)))))
    (some (.inr (.inl ())))
noncomputable def spec_PduOk (p0 : Pdu) : Option Bool :=
  (loop (fun z => spec_PduOk_l0 p0 z) 0).bind (Sum.elim (fun d =>
    (cond (p0.1 != 162) (some (p0.1 != 165)) (some false)).bind fun t36 =>
    (cond t36
      ((cond (p0.2.2.1 != 0) (some true) (some (p0.2.2.2.1 != 0))).bind fun t45 =>
      some t45)
      (some false)).bind fun t46 =>
    cond t46
      (some false)
      ((spec_l4Kind p0.1).bind fun t49 =>
      (cond t49
        ((spec_l1Clip p0.2.1).bind fun t53 =>
        some (t53 == p0.2.1))
        (some false)).bind fun t57 =>
      (cond t57
        ((spec_l1In p0.2.2.1 0 1000).bind fun t61 =>
        some t61)
        (some false)).bind fun t62 =>
      (cond t62
        ((spec_l1In p0.2.2.2.1 0 1000).bind fun t66 =>
        some t66)
        (some false)).bind fun t67 =>
      (cond t67 (some (decide ((p0.2.2.2.2.length : Int) ≤ 10))) (some false)).bind fun t73 =>
      some t73)) (fun r => some r))
noncomputable def F_spec_PduOk : Fn := ⟨[.val true cPdu false], [.val false (.one .bool) (some true)], fun a => spec_PduOk a⟩
def a_spec_PduOk : List (Nat × LoopAnn) := [(0, ⟨⟨[(3, false, [.dat (.int .i64)]), (20, false, [.undef]), (21, false, [.undef]), (22, false, [.undef]), (23, false, [.undef]), (24, false, [.undef]), (25, false, [.undef]), (26, false, [.undef]), (27, false, [.undef])], []⟩,
    ⟨[], []⟩, some ⟨[(2, false, [.dat .bool])], []⟩⟩)]
theorem e_spec_PduOk : fnDen ⟨tis, fns_30, [], false⟩ a_spec_PduOk Tryz.f12 (codeOf Tryz.f12) [.val true cPdu false] [.val false (.one .bool) (some true)] = fun a => spec_PduOk a := by kernel_rfl
theorem m_spec_PduOk : Meets Tryz.prog 12 F_spec_PduOk := by
  have h := meets_of (ann := a_spec_PduOk) (ps := [.val true cPdu false]) (rs := [.val false (.one .bool) (some true)]) g_30 mixed Tryz.func12 (by kernel_rfl) (by kernel_rfl : Tryz.f12.body = some (codeOf Tryz.f12))
  rw [e_spec_PduOk] at h
  exact h
noncomputable def fns_12 : List (FuncId × Fn) := (12, F_spec_PduOk) :: fns_30
theorem g_12 : Good Tryz.prog ⟨tis, fns_12, [], false⟩ := g_30.cons m_spec_PduOk
noncomputable def spec_l2Num_b (self : Int → Option (List UInt8)) (n0 : Int) : Option (List UInt8) :=
  cond (decide (n0 < 0))
    ((self (w64 (0 - n0))).bind fun t7 =>
    (cat [45] t7).bind fun t8 =>
    some t8)
    (cond (decide (n0 < 10))
      (let t2 := bytesOf [IntKind.u8.wrap (w64 (48 + n0))]
      some t2)
      ((self (w64 (n0.tdiv 10))).bind fun t18 =>
      (cat t18 (bytesOf [IntKind.u8.wrap (w64 (48 + (n0.tmod 10)))])).bind fun t25 =>
      some t25))
noncomputable def spec_l2Num_k : Nat → Int → Option (List UInt8)
  | 0 => fun _ => none
  | k + 1 => spec_l2Num_b (spec_l2Num_k k)
noncomputable def spec_l2Num : Int → Option (List UInt8) := spec_l2Num_k 20
def a_spec_l2Num : List (Nat × LoopAnn) := []
theorem e_spec_l2Num : (fun self : Int → Option (List UInt8) => fnDen ⟨tis, (34, ⟨[.val false (.one (.int .i64)) false], [.val false (.one .str) (some true)], fun a => self a⟩) :: fns_12, [], false⟩ a_spec_l2Num Tryz.f34 (codeOf Tryz.f34) [.val false (.one (.int .i64)) false] [.val false (.one .str) (some true)]) = fun self a => spec_l2Num_b self a := by kernel_rfl
theorem mk_spec_l2Num : ∀ k, Meets Tryz.prog 34 ⟨[.val false (.one (.int .i64)) false], [.val false (.one .str) (some true)], fun a => spec_l2Num_k k a⟩
  | 0 => ⟨⟨Tryz.f34, codeOf Tryz.f34, Tryz.func34, by kernel_rfl, by kernel_rfl⟩, by intro _ _ _ _ _ _ _ _ _ _ _ _ _ _ _ _ h; cases h⟩
  | k + 1 => by
    have h := meets_of (ann := a_spec_l2Num) (ps := [.val false (.one (.int .i64)) false]) (rs := [.val false (.one .str) (some true)]) (g_12.cons (mk_spec_l2Num k)) mixed Tryz.func34 (by kernel_rfl) (by kernel_rfl : Tryz.f34.body = some (codeOf Tryz.f34))
    rw [congrFun e_spec_l2Num (spec_l2Num_k k)] at h
    exact h
noncomputable def F_spec_l2Num : Fn := ⟨[.val false (.one (.int .i64)) false], [.val false (.one .str) (some true)], fun a => spec_l2Num a⟩
theorem m_spec_l2Num : Meets Tryz.prog 34 F_spec_l2Num := mk_spec_l2Num 20
noncomputable def fns_34 : List (FuncId × Fn) := (34, F_spec_l2Num) :: fns_12
theorem g_34 : Good Tryz.prog ⟨tis, fns_34, [], false⟩ := g_12.cons m_spec_l2Num
noncomputable def spec_OidText_l0 (o0 : List Int) (s3 : List UInt8) (i4 : Int) : Option ((List UInt8 × Int) ⊕ (List UInt8)) :=
  cond (decide (i4 < (o0.length : Int)))
    (cond (decide (i4 > 0))
      ((cat s3 [46]).bind fun t18 =>
      (at? o0 i4).bind fun x22 =>
      (spec_l2Num x22).bind fun t24 =>
      (cat t18 t24).bind fun t25 =>
      some (.inl (t25, w64 (i4 + 1))))
      ((at? o0 i4).bind fun x22_1 =>
      (spec_l2Num x22_1).bind fun t24_1 =>
      (cat s3 t24_1).bind fun t25_1 =>
      some (.inl (t25_1, w64 (i4 + 1)))))
    (some (.inr s3))
noncomputable def spec_OidText (o0 : List Int) : Option (List UInt8) :=
  (spec_OidOk o0).bind fun t6 =>
  cond (!t6)
    (some [])
    ((loop (fun z => spec_OidText_l0 o0 z.1 z.2) ([], 0)).bind fun d =>
    some d)
noncomputable def F_spec_OidText : Fn := ⟨[.val false (.one (.sl (.one (.int .i64)))) false], [.val false (.one .str) (some true)], fun a => spec_OidText a⟩
def a_spec_OidText : List (Nat × LoopAnn) := [(0, ⟨⟨[(3, false, [.dat .str]), (4, false, [.dat (.int .i64)])], []⟩,
    ⟨[(3, false, [.dat .str])], []⟩, none⟩)]
theorem e_spec_OidText : fnDen ⟨tis, fns_34, [], false⟩ a_spec_OidText Tryz.f37 (codeOf Tryz.f37) [.val false (.one (.sl (.one (.int .i64)))) false] [.val false (.one .str) (some true)] = fun a => spec_OidText a := by kernel_rfl
theorem m_spec_OidText : Meets Tryz.prog 37 F_spec_OidText := by
  have h := meets_of (ann := a_spec_OidText) (ps := [.val false (.one (.sl (.one (.int .i64)))) false]) (rs := [.val false (.one .str) (some true)]) g_34 mixed Tryz.func37 (by kernel_rfl) (by kernel_rfl : Tryz.f37.body = some (codeOf Tryz.f37))
  rw [e_spec_OidText] at h
  exact h
noncomputable def fns_37 : List (FuncId × Fn) := (37, F_spec_OidText) :: fns_34
theorem g_37 : Good Tryz.prog ⟨tis, fns_37, [], false⟩ := g_34.cons m_spec_OidText
noncomputable def spec_ValText (v0 : Val) : Option (List UInt8) :=
  (spec_ValOk v0).bind fun t4 =>
  cond (!t4)
    (some [])
    (cond (v0.1 == 2)
      ((spec_l2Num v0.2.1).bind fun t12 =>
      some t12)
      (cond (v0.1 == 4)
        ((cat [39] v0.2.2.1).bind fun t17 =>
        (cat t17 [39]).bind fun t18 =>
        some t18)
        (cond (v0.1 == 6)
          ((spec_OidText v0.2.2.2).bind fun t23 =>
          some t23)
          (cond (v0.1 == 128)
            (some [110, 111, 110, 101])
            (cond (v0.1 == 130) (some [101, 110, 100]) (some [110, 117, 108, 108]))))))
noncomputable def F_spec_ValText : Fn := ⟨[.val true cVal false], [.val false (.one .str) (some true)], fun a => spec_ValText a⟩
def a_spec_ValText : List (Nat × LoopAnn) := []
theorem e_spec_ValText : fnDen ⟨tis, fns_37, [], false⟩ a_spec_ValText Tryz.f16 (codeOf Tryz.f16) [.val true cVal false] [.val false (.one .str) (some true)] = fun a => spec_ValText a := by kernel_rfl
theorem m_spec_ValText : Meets Tryz.prog 16 F_spec_ValText := by
  have h := meets_of (ann := a_spec_ValText) (ps := [.val true cVal false]) (rs := [.val false (.one .str) (some true)]) g_37 mixed Tryz.func16 (by kernel_rfl) (by kernel_rfl : Tryz.f16.body = some (codeOf Tryz.f16))
  rw [e_spec_ValText] at h
  exact h
noncomputable def fns_16 : List (FuncId × Fn) := (16, F_spec_ValText) :: fns_37
theorem g_16 : Good Tryz.prog ⟨tis, fns_16, [], false⟩ := g_37.cons m_spec_ValText
noncomputable def spec_BindText (x0 : Bind) : Option (List UInt8) :=
  (spec_OidText x0.1).bind fun t5 =>
  (cat t5 [32, 61, 32]).bind fun t6 =>
  (spec_ValText x0.2).bind fun t9 =>
  (cat t6 t9).bind fun t10 =>
  some t10
noncomputable def F_spec_BindText : Fn := ⟨[.val true cBind false], [.val false (.one .str) (some true)], fun a => spec_BindText a⟩
def a_spec_BindText : List (Nat × LoopAnn) := []
theorem e_spec_BindText : fnDen ⟨tis, fns_16, [], false⟩ a_spec_BindText Tryz.f17 (codeOf Tryz.f17) [.val true cBind false] [.val false (.one .str) (some true)] = fun a => spec_BindText a := by kernel_rfl
theorem m_spec_BindText : Meets Tryz.prog 17 F_spec_BindText := by
  have h := meets_of (ann := a_spec_BindText) (ps := [.val true cBind false]) (rs := [.val false (.one .str) (some true)]) g_16 mixed Tryz.func17 (by kernel_rfl) (by kernel_rfl : Tryz.f17.body = some (codeOf Tryz.f17))
  rw [e_spec_BindText] at h
  exact h
noncomputable def fns_17 : List (FuncId × Fn) := (17, F_spec_BindText) :: fns_16
theorem g_17 : Good Tryz.prog ⟨tis, fns_17, [], false⟩ := g_16.cons m_spec_BindText
noncomputable def spec_l26Kind (k0 : Int) : Option (List UInt8) :=
  cond (k0 == 160)
    (some [103, 101, 116])
    (cond (k0 == 161)
      (some [110, 101, 120, 116])
      (cond (k0 == 162)
        (let t2 := [97, 110, 115, 119, 101, 114]
        some t2)
        (cond (k0 == 163) (some [115, 101, 116]) (some [98, 117, 108, 107]))))
noncomputable def F_spec_l26Kind : Fn := ⟨[.val false (.one (.int .i64)) false], [.val false (.one .str) (some true)], fun a => spec_l26Kind a⟩
def a_spec_l26Kind : List (Nat × LoopAnn) := []
theorem e_spec_l26Kind : fnDen ⟨tis, fns_17, [], false⟩ a_spec_l26Kind Tryz.f33 (codeOf Tryz.f33) [.val false (.one (.int .i64)) false] [.val false (.one .str) (some true)] = fun a => spec_l26Kind a := by kernel_rfl
theorem m_spec_l26Kind : Meets Tryz.prog 33 F_spec_l26Kind := by
  have h := meets_of (ann := a_spec_l26Kind) (ps := [.val false (.one (.int .i64)) false]) (rs := [.val false (.one .str) (some true)]) g_17 mixed Tryz.func33 (by kernel_rfl) (by kernel_rfl : Tryz.f33.body = some (codeOf Tryz.f33))
  rw [e_spec_l26Kind] at h
  exact h
noncomputable def fns_33 : List (FuncId × Fn) := (33, F_spec_l26Kind) :: fns_17
theorem g_33 : Good Tryz.prog ⟨tis, fns_33, [], false⟩ := g_17.cons m_spec_l26Kind
noncomputable def spec_PduText_l0 (p0 : Pdu) (s3 : List UInt8) (i4 : Int) : Option ((List UInt8 × Int) ⊕ (List UInt8)) :=
  cond (decide (i4 < (p0.2.2.2.2.length : Int)))
    ((cat s3 [10]).bind fun t43 =>
    (at? p0.2.2.2.2 i4).bind fun x47 =>
    (spec_BindText x47).bind fun t49 =>
    (cat t43 t49).bind fun t50 =>
    some (.inl (t50, w64 (i4 + 1))))
    (some (.inr s3))
noncomputable def spec_PduText_l0_1 (p0 : Pdu) (s3_2 : List UInt8) (i4_1 : Int) : Option ((List UInt8 × Int) ⊕ (List UInt8)) :=
  cond (decide (i4_1 < (p0.2.2.2.2.length : Int)))
    ((cat s3_2 [10]).bind fun t43_1 =>
    (at? p0.2.2.2.2 i4_1).bind fun x47_1 =>
    (spec_BindText x47_1).bind fun t49_1 =>
    (cat t43_1 t49_1).bind fun t50_1 =>
    some (.inl (t50_1, w64 (i4_1 + 1))))
    (some (.inr s3_2))
noncomputable def spec_PduText (p0 : Pdu) : Option (List UInt8) :=
  (spec_PduOk p0).bind fun t6 =>
  cond (!t6)
    (some [])
    ((spec_l26Kind p0.1).bind fun t10 =>
    (cat t10 [32]).bind fun t11 =>
    (spec_l2Num p0.2.1).bind fun t14 =>
    (cat t11 t14).bind fun t15 =>
    (cond (p0.1 == 162) (some true) (some (p0.1 == 165))).bind fun t23 =>
    cond t23
      ((cat t15 [32]).bind fun t25 =>
      (spec_l2Num p0.2.2.1).bind fun t28 =>
      (cat t25 t28).bind fun t29 =>
      (cat t29 [32]).bind fun t30 =>
      (spec_l2Num p0.2.2.2.1).bind fun t33 =>
      (cat t30 t33).bind fun t34 =>
      (loop (fun z => spec_PduText_l0 p0 z.1 z.2) (t34, 0)).bind fun d =>
      some d)
      ((loop (fun z => spec_PduText_l0_1 p0 z.1 z.2) (t15, 0)).bind fun d_1 =>
      some d_1))
noncomputable def F_spec_PduText : Fn := ⟨[.val true cPdu false], [.val false (.one .str) (some true)], fun a => spec_PduText a⟩
def a_spec_PduText : List (Nat × LoopAnn) := [(0, ⟨⟨[(3, false, [.dat .str]), (4, false, [.dat (.int .i64)])], []⟩,
    ⟨[(3, false, [.dat .str])], []⟩, none⟩)]
theorem e_spec_PduText : fnDen ⟨tis, fns_33, [], false⟩ a_spec_PduText Tryz.f13 (codeOf Tryz.f13) [.val true cPdu false] [.val false (.one .str) (some true)] = fun a => spec_PduText a := by kernel_rfl
theorem m_spec_PduText : Meets Tryz.prog 13 F_spec_PduText := by
  have h := meets_of (ann := a_spec_PduText) (ps := [.val true cPdu false]) (rs := [.val false (.one .str) (some true)]) g_33 mixed Tryz.func13 (by kernel_rfl) (by kernel_rfl : Tryz.f13.body = some (codeOf Tryz.f13))
  rw [e_spec_PduText] at h
  exact h
noncomputable def fns_13 : List (FuncId × Fn) := (13, F_spec_PduText) :: fns_33
theorem g_13 : Good Tryz.prog ⟨tis, fns_13, [], false⟩ := g_33.cons m_spec_PduText
noncomputable def spec_LessVec (a0 : Vec) (b1 : Vec) : Option Bool :=
  cond (a0.1 != b1.1)
    (some (decide (a0.1 < b1.1)))
    (cond (a0.2.1 != b1.2.1)
      (some (decide (a0.2.1 < b1.2.1)))
      (cond (a0.2.2.2.1 != b1.2.2.2.1)
        (let t4 := decide (a0.2.2.2.1 < b1.2.2.2.1)
        some t4)
        (let t4_1 := decide (a0.2.2.2.2 < b1.2.2.2.2)
        some t4_1)))
noncomputable def F_spec_LessVec : Fn := ⟨[.val true cVec false, .val true cVec false], [.val false (.one .bool) (some true)], fun a => spec_LessVec a.1 a.2⟩
def a_spec_LessVec : List (Nat × LoopAnn) := []
theorem e_spec_LessVec : fnDen ⟨tis, fns_13, [], false⟩ a_spec_LessVec Tryz.f60 (codeOf Tryz.f60) [.val true cVec false, .val true cVec false] [.val false (.one .bool) (some true)] = fun a => spec_LessVec a.1 a.2 := by kernel_rfl
theorem m_spec_LessVec : Meets Tryz.prog 60 F_spec_LessVec := by
  have h := meets_of (ann := a_spec_LessVec) (ps := [.val true cVec false, .val true cVec false]) (rs := [.val false (.one .bool) (some true)]) g_13 mixed Tryz.func60 (by kernel_rfl) (by kernel_rfl : Tryz.f60.body = some (codeOf Tryz.f60))
  rw [e_spec_LessVec] at h
  exact h
noncomputable def fns_60 : List (FuncId × Fn) := (60, F_spec_LessVec) :: fns_13
theorem g_60 : Good Tryz.prog ⟨tis, fns_60, [], false⟩ := g_13.cons m_spec_LessVec
noncomputable def spec_VecOk (v0 : Vec) : Option Bool :=
  (spec_l1In v0.1 1 99).bind fun t5 =>
  (cond t5
    ((spec_l1In v0.2.1 0 100000).bind fun t9 =>
    some t9)
    (some false)).bind fun t10 =>
  (cond t10
    ((spec_l1In v0.2.2.1 0 10).bind fun t14 =>
    some t14)
    (some false)).bind fun t15 =>
  (cond t15
    ((spec_l1In v0.2.2.2.1 1 99).bind fun t19 =>
    some t19)
    (some false)).bind fun t20 =>
  (cond t20
    ((spec_l1In v0.2.2.2.2 0 7).bind fun t24 =>
    some t24)
    (some false)).bind fun t25 =>
  some t25
noncomputable def F_spec_VecOk : Fn := ⟨[.val true cVec false], [.val false (.one .bool) (some true)], fun a => spec_VecOk a⟩
def a_spec_VecOk : List (Nat × LoopAnn) := []
theorem e_spec_VecOk : fnDen ⟨tis, fns_60, [], false⟩ a_spec_VecOk Tryz.f100 (codeOf Tryz.f100) [.val true cVec false] [.val false (.one .bool) (some true)] = fun a => spec_VecOk a := by kernel_rfl
theorem m_spec_VecOk : Meets Tryz.prog 100 F_spec_VecOk := by
  have h := meets_of (ann := a_spec_VecOk) (ps := [.val true cVec false]) (rs := [.val false (.one .bool) (some true)]) g_60 mixed Tryz.func100 (by kernel_rfl) (by kernel_rfl : Tryz.f100.body = some (codeOf Tryz.f100))
  rw [e_spec_VecOk] at h
  exact h
noncomputable def fns_100 : List (FuncId × Fn) := (100, F_spec_VecOk) :: fns_60
theorem g_100 : Good Tryz.prog ⟨tis, fns_100, [], false⟩ := g_60.cons m_spec_VecOk
noncomputable def spec_StepVec (v0 : Vec) (cost1 : Int) : Option (Vec × Bool) :=
  (spec_VecOk v0).bind fun t8 =>
  (cond (!t8)
    (some true)
    ((spec_l1In cost1 1 1000).bind fun t12 =>
    some (!t12))).bind fun t14 =>
  cond t14
    (some (v0, false))
    ((spec_VecOk (v0.1, w64 (v0.2.1 + cost1), w64 (v0.2.2.1 + 1), v0.2.2.2.1, v0.2.2.2.2)).bind fun t27 =>
    cond (!t27)
      (some (v0, false))
      (some ((v0.1, w64 (v0.2.1 + cost1), w64 (v0.2.2.1 + 1), v0.2.2.2.1, v0.2.2.2.2), true)))
noncomputable def F_spec_StepVec : Fn := ⟨[.val true cVec false, .val false (.one (.int .i64)) false], [.val true cVec (some true), .val false (.one .bool) (some true)], fun a => spec_StepVec a.1 a.2⟩
def a_spec_StepVec : List (Nat × LoopAnn) := []
theorem e_spec_StepVec : fnDen ⟨tis, fns_100, [], false⟩ a_spec_StepVec Tryz.f79 (codeOf Tryz.f79) [.val true cVec false, .val false (.one (.int .i64)) false] [.val true cVec (some true), .val false (.one .bool) (some true)] = fun a => spec_StepVec a.1 a.2 := by kernel_rfl
theorem m_spec_StepVec : Meets Tryz.prog 79 F_spec_StepVec := by
  have h := meets_of (ann := a_spec_StepVec) (ps := [.val true cVec false, .val false (.one (.int .i64)) false]) (rs := [.val true cVec (some true), .val false (.one .bool) (some true)]) g_100 mixed Tryz.func79 (by kernel_rfl) (by kernel_rfl : Tryz.f79.body = some (codeOf Tryz.f79))
  rw [e_spec_StepVec] at h
  exact h
noncomputable def fns_79 : List (FuncId × Fn) := (79, F_spec_StepVec) :: fns_100
theorem g_79 : Good Tryz.prog ⟨tis, fns_79, [], false⟩ := g_100.cons m_spec_StepVec
noncomputable def spec_BestVec_l0 (p0 : Int) (i1 : List Pt) (t8 : Int) (t9 : Int) (b0 : Int) (b1 : Int) (b2 : Int) (b3 : Int) (b4 : Int) (b0_1 : Int) (b1_1 : Int) (b2_1 : Int) (b3_1 : Int) (b4_1 : Int) : Option ((Int × Int × Int × Int × Int × Int × Int × Int × Int × Int × Int × Int) ⊕ (Int × Int × Int × Int × Int × Int × Int × Int × Int × Int × Int)) :=
  cond (decide (t9 < (i1.length : Int)))
    ((at? i1 t9).bind fun x24 =>
    (cond (!x24.1)
      (some true)
      ((at? i1 t9).bind fun x31 =>
      some (!x31.2.2.1))).bind fun t35 =>
    cond t35
      (some (.inl (t8, w64 (t9 + 1), b0, b1, b2, b3, b4, b0_1, b1_1, b2_1, b3_1, b4_1)))
      ((at? i1 t9).bind fun x39 =>
      (at? i1 t9).bind fun x44 =>
      (spec_StepVec x39.2.2.2 x44.2.1).bind fun t47 =>
      (cond t47.2 (some (decide (t47.1.1 < p0))) (some false)).bind fun t56 =>
      (cond t56
        ((cond (decide (t8 < 0))
          (some true)
          ((spec_LessVec t47.1 (b0_1, b1_1, b2_1, b3_1, b4_1)).bind fun t63 =>
          some t63)).bind fun t64 =>
        some t64)
        (some false)).bind fun t65 =>
      cond t65
        (some (.inl (t9, w64 (t9 + 1), t47.1.1, t47.1.2.1, t47.1.2.2.1, p0, 0, t47.1.1, t47.1.2.1, t47.1.2.2.1, t47.1.2.2.2.1, t47.1.2.2.2.2)))
        (some (.inl (t8, w64 (t9 + 1), b0, b1, b2, b3, b4, b0_1, b1_1, b2_1, b3_1, b4_1)))))
    (some (.inr (t8, b0, b1, b2, b3, b4, b0_1, b1_1, b2_1, b3_1, b4_1)))
noncomputable def spec_BestVec (p0 : Int) (i1 : List Pt) : Option (Vec × Int) :=
  (loop (fun z => spec_BestVec_l0 p0 i1 z.1 z.2.1 z.2.2.1 z.2.2.2.1 z.2.2.2.2.1 z.2.2.2.2.2.1 z.2.2.2.2.2.2.1 z.2.2.2.2.2.2.2.1 z.2.2.2.2.2.2.2.2.1 z.2.2.2.2.2.2.2.2.2.1 z.2.2.2.2.2.2.2.2.2.2.1 z.2.2.2.2.2.2.2.2.2.2.2) ((-1), 0, p0, 0, 0, p0, 0, 0, 0, 0, 0, 0)).bind fun d =>
  some ((d.2.1, d.2.2.1, d.2.2.2.1, d.2.2.2.2.1, d.2.2.2.2.2.1), d.1)
noncomputable def F_spec_BestVec : Fn := ⟨[.val false (.one (.int .i64)) false, .val false (.one (.sl cPt)) false], [.val true cVec (some true), .val false (.one (.int .i64)) (some true)], fun a => spec_BestVec a.1 a.2⟩
def a_spec_BestVec : List (Nat × LoopAnn) := [(0, ⟨⟨[(8, false, [.dat (.int .i64)]), (9, false, [.dat (.int .i64)]), (29, false, [.undef]), (30, false, [.undef]), (31, false, [.undef]), (32, false, [.undef]), (33, false, [.undef]), (34, false, [.undef]), (52, false, [.undef]), (53, false, [.undef]), (54, false, [.undef]), (55, false, [.undef]), (58, false, [.undef]), (59, false, [.undef]), (60, false, [.undef]), (61, false, [.undef]), (62, false, [.undef]), (63, false, [.undef]), (64, false, [.undef])], [(266240, .box [.dat (.int .i64), .dat (.int .i64), .dat (.int .i64), .dat (.int .i64), .dat (.int .i64)]), (526336, .box [.dat (.int .i64), .dat (.int .i64), .dat (.int .i64), .dat (.int .i64), .dat (.int .i64)])]⟩,
    ⟨[(8, false, [.dat (.int .i64)])], [(266240, .box [.dat (.int .i64), .dat (.int .i64), .dat (.int .i64), .dat (.int .i64), .dat (.int .i64)]), (526336, .box [.dat (.int .i64), .dat (.int .i64), .dat (.int .i64), .dat (.int .i64), .dat (.int .i64)])]⟩, none⟩)]
theorem e_spec_BestVec : fnDen ⟨tis, fns_79, [], false⟩ a_spec_BestVec Tryz.f59 (codeOf Tryz.f59) [.val false (.one (.int .i64)) false, .val false (.one (.sl cPt)) false] [.val true cVec (some true), .val false (.one (.int .i64)) (some true)] = fun a => spec_BestVec a.1 a.2 := by kernel_rfl
theorem m_spec_BestVec : Meets Tryz.prog 59 F_spec_BestVec := by
  have h := meets_of (ann := a_spec_BestVec) (ps := [.val false (.one (.int .i64)) false, .val false (.one (.sl cPt)) false]) (rs := [.val true cVec (some true), .val false (.one (.int .i64)) (some true)]) g_79 mixed Tryz.func59 (by kernel_rfl) (by kernel_rfl : Tryz.f59.body = some (codeOf Tryz.f59))
  rw [e_spec_BestVec] at h
  exact h
noncomputable def fns_59 : List (FuncId × Fn) := (59, F_spec_BestVec) :: fns_79
theorem g_59 : Good Tryz.prog ⟨tis, fns_59, [], false⟩ := g_79.cons m_spec_BestVec
noncomputable def spec_SayVec (id0 : Int) (l1 : List Pt) (port2 : Int) : Option Vec :=
  (spec_BestVec id0 l1).bind fun t12 =>
  some (t12.1.1, t12.1.2.1, t12.1.2.2.1, t12.1.2.2.2.1, port2)
noncomputable def F_spec_SayVec : Fn := ⟨[.val false (.one (.int .i64)) false, .val false (.one (.sl cPt)) false, .val false (.one (.int .i64)) false], [.val true cVec (some true)], fun a => spec_SayVec a.1 a.2.1 a.2.2⟩
def a_spec_SayVec : List (Nat × LoopAnn) := []
theorem e_spec_SayVec : fnDen ⟨tis, fns_59, [], false⟩ a_spec_SayVec Tryz.f61 (codeOf Tryz.f61) [.val false (.one (.int .i64)) false, .val false (.one (.sl cPt)) false, .val false (.one (.int .i64)) false] [.val true cVec (some true)] = fun a => spec_SayVec a.1 a.2.1 a.2.2 := by kernel_rfl
theorem m_spec_SayVec : Meets Tryz.prog 61 F_spec_SayVec := by
  have h := meets_of (ann := a_spec_SayVec) (ps := [.val false (.one (.int .i64)) false, .val false (.one (.sl cPt)) false, .val false (.one (.int .i64)) false]) (rs := [.val true cVec (some true)]) g_59 mixed Tryz.func61 (by kernel_rfl) (by kernel_rfl : Tryz.f61.body = some (codeOf Tryz.f61))
  rw [e_spec_SayVec] at h
  exact h
noncomputable def fns_61 : List (FuncId × Fn) := (61, F_spec_SayVec) :: fns_59
theorem g_61 : Good Tryz.prog ⟨tis, fns_61, [], false⟩ := g_59.cons m_spec_SayVec
noncomputable def spec_RoleOf (id0 : Int) (l1 : List Pt) (port2 : Int) : Option Int :=
  (spec_l1In port2 0 (w64 ((l1.length : Int) - 1))).bind fun t13 =>
  (cond (!t13)
    (some true)
    ((at? l1 port2).bind fun x18 =>
    some (!x18.1))).bind fun t22 =>
  cond t22
    (some 4)
    ((spec_BestVec id0 l1).bind fun t26 =>
    cond (t26.2 == port2)
      (some 1)
      ((at? l1 port2).bind fun x36 =>
      (cond (!x36.2.2.1)
        (some true)
        ((spec_SayVec id0 l1 port2).bind fun t44 =>
        (at? l1 port2).bind fun x47 =>
        (spec_LessVec t44 x47.2.2.2).bind fun t50 =>
        some t50)).bind fun t51 =>
      cond t51 (some 2) (some 3)))
noncomputable def F_spec_RoleOf : Fn := ⟨[.val false (.one (.int .i64)) false, .val false (.one (.sl cPt)) false, .val false (.one (.int .i64)) false], [.val false (.one (.int .i64)) (some true)], fun a => spec_RoleOf a.1 a.2.1 a.2.2⟩
def a_spec_RoleOf : List (Nat × LoopAnn) := []
theorem e_spec_RoleOf : fnDen ⟨tis, fns_61, [], false⟩ a_spec_RoleOf Tryz.f35 (codeOf Tryz.f35) [.val false (.one (.int .i64)) false, .val false (.one (.sl cPt)) false, .val false (.one (.int .i64)) false] [.val false (.one (.int .i64)) (some true)] = fun a => spec_RoleOf a.1 a.2.1 a.2.2 := by kernel_rfl
theorem m_spec_RoleOf : Meets Tryz.prog 35 F_spec_RoleOf := by
  have h := meets_of (ann := a_spec_RoleOf) (ps := [.val false (.one (.int .i64)) false, .val false (.one (.sl cPt)) false, .val false (.one (.int .i64)) false]) (rs := [.val false (.one (.int .i64)) (some true)]) g_61 mixed Tryz.func35 (by kernel_rfl) (by kernel_rfl : Tryz.f35.body = some (codeOf Tryz.f35))
  rw [e_spec_RoleOf] at h
  exact h
noncomputable def fns_35 : List (FuncId × Fn) := (35, F_spec_RoleOf) :: fns_61
theorem g_35 : Good Tryz.prog ⟨tis, fns_35, [], false⟩ := g_61.cons m_spec_RoleOf
noncomputable def spec_RolesText_l0 (b0 : Bridge) (s3 : List UInt8) (i4 : Int) : Option ((List UInt8 × Int) ⊕ (List UInt8)) :=
  cond (decide (i4 < (b0.2.2.1.length : Int)))
    (cond (decide (i4 > 0))
      ((cat s3 [32]).bind fun t15 =>
      (spec_RoleOf b0.1 b0.2.2.1 i4).bind fun t21 =>
      cond (t21 == 1)
        ((cat t15 [114, 111, 111, 116]).bind fun t27 =>
        some (.inl (t27, w64 (i4 + 1))))
        (cond (t21 == 2)
          ((cat t15 [116, 111, 108, 100]).bind fun t31 =>
          some (.inl (t31, w64 (i4 + 1))))
          (cond (t21 == 3)
            ((cat t15 [105, 100, 108, 101]).bind fun t35 =>
            some (.inl (t35, w64 (i4 + 1))))
            ((cat t15 [100, 111, 119, 110]).bind fun t23 =>
            some (.inl (t23, w64 (i4 + 1)))))))
      ((spec_RoleOf b0.1 b0.2.2.1 i4).bind fun t21_1 =>
      cond (t21_1 == 1)
        ((cat s3 [114, 111, 111, 116]).bind fun t27_1 =>
        some (.inl (t27_1, w64 (i4 + 1))))
        (cond (t21_1 == 2)
          ((cat s3 [116, 111, 108, 100]).bind fun t31_1 =>
          some (.inl (t31_1, w64 (i4 + 1))))
          (cond (t21_1 == 3)
            ((cat s3 [105, 100, 108, 101]).bind fun t35_1 =>
            some (.inl (t35_1, w64 (i4 + 1))))
            ((cat s3 [100, 111, 119, 110]).bind fun t23_1 =>
            some (.inl (t23_1, w64 (i4 + 1))))))))
    (some (.inr s3))
noncomputable def spec_RolesText (b0 : Bridge) : Option (List UInt8) :=
  (loop (fun z => spec_RolesText_l0 b0 z.1 z.2) ([], 0)).bind fun d =>
  some d
noncomputable def F_spec_RolesText : Fn := ⟨[.val true cBridge false], [.val false (.one .str) (some true)], fun a => spec_RolesText a⟩
def a_spec_RolesText : List (Nat × LoopAnn) := [(0, ⟨⟨[(3, false, [.dat .str]), (4, false, [.dat (.int .i64)])], []⟩,
    ⟨[(3, false, [.dat .str])], []⟩, none⟩)]
theorem e_spec_RolesText : fnDen ⟨tis, fns_35, [], false⟩ a_spec_RolesText Tryz.f14 (codeOf Tryz.f14) [.val true cBridge false] [.val false (.one .str) (some true)] = fun a => spec_RolesText a := by kernel_rfl
theorem m_spec_RolesText : Meets Tryz.prog 14 F_spec_RolesText := by
  have h := meets_of (ann := a_spec_RolesText) (ps := [.val true cBridge false]) (rs := [.val false (.one .str) (some true)]) g_35 mixed Tryz.func14 (by kernel_rfl) (by kernel_rfl : Tryz.f14.body = some (codeOf Tryz.f14))
  rw [e_spec_RolesText] at h
  exact h
noncomputable def fns_14 : List (FuncId × Fn) := (14, F_spec_RolesText) :: fns_35
theorem g_14 : Good Tryz.prog ⟨tis, fns_14, [], false⟩ := g_35.cons m_spec_RolesText
noncomputable def laws_FnTexts_l0 (t22 : List UInt8) (t9 : Int) (t10 : Int) : Option ((Int × Int) ⊕ Int) :=
  cond (decide (t10 < (t22.length : Int)))
    ((at? t22 t10).bind fun b35 =>
    cond ((b35.toNat : Int) == 32)
      (some (.inl (w64 (t9 + 1), w64 (t10 + 1))))
      (some (.inl (t9, w64 (t10 + 1)))))
    (some (.inr t9))
noncomputable def laws_FnTexts_l2 (t16 : Pdu) (t11 : List UInt8) (t12_1 : Int) : Option ((List UInt8 × Int) ⊕ (List UInt8)) :=
  cond (decide (t12_1 ≥ 0))
    ((ix t16.2.2.2.2.length t12_1).bind fun j50 =>
    (t16.2.2.2.2[j50]?).bind fun x51 =>
    (impl_BindText x51).bind fun t52 =>
    (cat [10] t52).bind fun t53 =>
    (cat t53 t11).bind fun t55 =>
    some (.inl (t55, w64 (t12_1 - 1))))
    (some (.inr t11))
noncomputable def laws_FnTexts (p0 : List Int) : Option Bool :=
  (laws_big p0).bind fun t14 =>
  cond t14
    (some true)
    ((spec_DrawPduText p0).bind fun t16 =>
    (impl_PduText t16).bind fun t18 =>
    (spec_DrawRolesText p0).bind fun t20 =>
    (impl_RolesText t20).bind fun t22 =>
    (spec_DrawValText p0).bind fun t24 =>
    (spec_DrawBindText p0).bind fun t26 =>
    (loop (fun z => laws_FnTexts_l0 t22 z.1 z.2) (0, 0)).bind fun d =>
    let t12 := w64 ((t16.2.2.2.2.length : Int) - 1)
    (loop (fun z => laws_FnTexts_l2 t16 z.1 z.2) ([], t12)).bind fun d_1 =>
    (spec_PduOk t16).bind fun t57 =>
    (cond t57
      ((cond (decide ((t18.length : Int) < (d_1.length : Int)))
        (some true)
        ((cut t18 (w64 ((t18.length : Int) - (d_1.length : Int))) (t18.length : Int)).bind fun t71 =>
        some (!(t71 == d_1)))).bind fun t74 =>
      some t74)
      (some false)).bind fun t75 =>
    cond t75
      (some false)
      ((spec_PduText t16).bind fun t78 =>
      (cond (t18 == t78)
        ((spec_RolesText t20).bind fun t83 =>
        some (t22 == t83))
        (some false)).bind fun t85 =>
      (cond t85
        ((cond ((t20.2.2.1.length : Int) == 0) (some true) (some (d == (w64 ((t20.2.2.1.length : Int) - 1))))).bind fun t98 =>
        some t98)
        (some false)).bind fun t99 =>
      (cond t99
        ((impl_ValText t24).bind fun t102 =>
        (spec_ValText t24).bind fun t104 =>
        some (t102 == t104))
        (some false)).bind fun t106 =>
      (cond t106
        ((impl_BindText t26).bind fun t109 =>
        (spec_BindText t26).bind fun t111 =>
        some (t109 == t111))
        (some false)).bind fun t113 =>
      (cond t113
        ((spec_PduOk t16).bind fun t118 =>
        some (!((t18 == []) == t118)))
        (some false)).bind fun t120 =>
      some t120))
noncomputable def F_laws_FnTexts : Fn := ⟨[.val false (.one (.sl (.one (.int .u8)))) false], [.val false (.one .bool) (some true)], fun a => laws_FnTexts a⟩
def a_laws_FnTexts : List (Nat × LoopAnn) := [(0, ⟨⟨[(9, false, [.dat (.int .i64)]), (10, false, [.dat (.int .i64)])], []⟩,
    ⟨[(9, false, [.dat (.int .i64)])], []⟩, none⟩),
  (2, ⟨⟨[(11, false, [.dat .str]), (12, false, [.dat (.int .i64)])], []⟩,
    ⟨[(11, false, [.dat .str])], []⟩, none⟩)]
theorem e_laws_FnTexts : fnDen ⟨tis, fns_14, [], false⟩ a_laws_FnTexts Tryz.f3 (codeOf Tryz.f3) [.val false (.one (.sl (.one (.int .u8)))) false] [.val false (.one .bool) (some true)] = fun a => laws_FnTexts a := by kernel_rfl
theorem m_laws_FnTexts : Meets Tryz.prog 3 F_laws_FnTexts := by
  have h := meets_of (ann := a_laws_FnTexts) (ps := [.val false (.one (.sl (.one (.int .u8)))) false]) (rs := [.val false (.one .bool) (some true)]) g_14 mixed Tryz.func3 (by kernel_rfl) (by kernel_rfl : Tryz.f3.body = some (codeOf Tryz.f3))
  rw [e_laws_FnTexts] at h
  exact h
end Go.V.W

