/- The law FnExactRolesText: part of the proof that for every input it returns true. No condition. -/
import Derived.Test.YtpfjdhdmkacnbaaLayPlain
import Derived.Test.YtpfjdhdmkacnbaaProg
import Derived.Test.YtpfjdhdmkacnbaaChecked
import Derived.KernelRfl
namespace Go.V.W
open Go.Proofs
set_option linter.unusedVariables false
@[reducible] def cVec : Cs := .cons (.int .i64) (.cons (.int .i64) (.cons (.int .i64) (.cons (.int .i64) (.one (.int .i64)))))
@[reducible] def cPt : Cs := .cons .bool (.cons (.int .i64) (.cons .bool (.cons (.int .i64) (.cons (.int .i64) (.cons (.int .i64) (.cons (.int .i64) (.one (.int .i64))))))))
@[reducible] def cFent : Cs := .cons (.int .i64) (.cons (.int .i64) (.cons (.int .i64) (.cons (.int .i64) (.one .bool))))
@[reducible] def cVrow : Cs := .cons (.int .i64) (.cons (.int .i64) (.one (.int .i64)))
@[reducible] def cVtab : Cs := .cons (.sl cVrow) (.one (.sl (.one (.int .i64))))
@[reducible] def cBridge : Cs := .cons (.int .i64) (.cons .str (.cons (.sl cPt) (.cons (.sl cFent) (.cons (.sl cVrow) (.cons (.sl (.one (.int .i64))) (.cons (.int .i64) (.cons (.int .i64) (.cons (.int .i64) (.cons (.int .i64) (.one (.int .i64)))))))))))
abbrev Vec : Type := Int × Int × Int × Int × Int
abbrev Pt : Type := Bool × Int × Bool × Int × Int × Int × Int × Int
abbrev Fent : Type := Int × Int × Int × Int × Bool
abbrev Vrow : Type := Int × Int × Int
abbrev Vtab : Type := List Vrow × List Int
abbrev Bridge : Type := Int × List UInt8 × List Pt × List Fent × List Vrow × List Int × Int × Int × Int × Int × Int
def tis : List (Nat × TInfo) := [(2, ⟨false, .one (.int .i64), [], 0⟩),
  (3, ⟨false, .one (.int .i64), [], 0⟩),
  (4, ⟨false, .one .bool, [], 0⟩),
  (5, ⟨false, .one (.int .u8), [], 0⟩),
  (6, ⟨false, .one (.int .u8), [], 0⟩),
  (9, ⟨false, .one .str, [], 0⟩),
  (10, ⟨false, .one .str, [], 0⟩),
  (11, ⟨false, .one .str, [], 0⟩),
  (12, ⟨false, .one (.int .u64), [], 0⟩),
  (21, ⟨false, .one (.int .i32), [], 0⟩),
  (22, ⟨false, .one (.sl cPt), [], 68⟩),
  (23, ⟨false, .one (.sl cFent), [], 72⟩),
  (24, ⟨false, .one (.sl cVrow), [], 95⟩),
  (25, ⟨false, .one (.sl (.one (.int .i64))), [], 3⟩),
  (26, ⟨true, cVtab, [(24, 0), (25, 1)], 0⟩),
  (27, ⟨true, cVtab, [(24, 0), (25, 1)], 0⟩),
  (28, ⟨true, cBridge, [(3, 0), (9, 1), (22, 2), (23, 3), (27, 4), (3, 6), (3, 7), (3, 8), (3, 9), (3, 10)], 0⟩),
  (29, ⟨true, cBridge, [(3, 0), (9, 1), (22, 2), (23, 3), (27, 4), (3, 6), (3, 7), (3, 8), (3, 9), (3, 10)], 0⟩),
  (32, ⟨false, .one (.sl cPt), [], 60⟩),
  (33, ⟨false, .one (.sl cFent), [], 70⟩),
  (34, ⟨false, .one (.sl cVrow), [], 93⟩),
  (35, ⟨true, cVtab, [(34, 0), (25, 1)], 0⟩),
  (36, ⟨true, cVtab, [(34, 0), (25, 1)], 0⟩),
  (37, ⟨true, cBridge, [(3, 0), (9, 1), (32, 2), (33, 3), (36, 4), (3, 6), (3, 7), (3, 8), (3, 9), (3, 10)], 0⟩),
  (38, ⟨true, cBridge, [(3, 0), (9, 1), (32, 2), (33, 3), (36, 4), (3, 6), (3, 7), (3, 8), (3, 9), (3, 10)], 0⟩),
  (49, ⟨false, .one (.sl (.one .str)), [], 9⟩),
  (57, ⟨true, cVec, [(3, 0), (3, 1), (3, 2), (3, 3), (3, 4)], 0⟩),
  (58, ⟨true, cVec, [(3, 0), (3, 1), (3, 2), (3, 3), (3, 4)], 0⟩),
  (59, ⟨true, cPt, [(4, 0), (3, 1), (4, 2), (58, 3)], 0⟩),
  (60, ⟨true, cPt, [(4, 0), (3, 1), (4, 2), (58, 3)], 0⟩),
  (66, ⟨true, cVec, [(3, 0), (3, 1), (3, 2), (3, 3), (3, 4)], 0⟩),
  (67, ⟨true, cPt, [(4, 0), (3, 1), (4, 2), (66, 3)], 0⟩),
  (68, ⟨true, cPt, [(4, 0), (3, 1), (4, 2), (66, 3)], 0⟩),
  (69, ⟨true, cFent, [(3, 0), (3, 1), (3, 2), (3, 3), (4, 4)], 0⟩),
  (70, ⟨true, cFent, [(3, 0), (3, 1), (3, 2), (3, 3), (4, 4)], 0⟩),
  (72, ⟨true, cFent, [(3, 0), (3, 1), (3, 2), (3, 3), (4, 4)], 0⟩),
  (76, ⟨false, .one (.sl (.one (.int .u8))), [], 5⟩),
  (81, ⟨false, .one .err, [], 0⟩),
  (92, ⟨true, cVrow, [(3, 0), (3, 1), (3, 2)], 0⟩),
  (93, ⟨true, cVrow, [(3, 0), (3, 1), (3, 2)], 0⟩),
  (95, ⟨true, cVrow, [(3, 0), (3, 1), (3, 2)], 0⟩),
  (108, ⟨false, .one (.int .u32), [], 0⟩),
  (109, ⟨false, .one (.int .u8), [], 0⟩),
  (110, ⟨false, .one (.int .u8), [], 0⟩),
  (112, ⟨false, .one (.int .i32), [], 0⟩),
  (113, ⟨false, .one (.int .i32), [], 0⟩)]
theorem tisT : Tis Try.prog tis := Tis.of_all (by kernel_rfl)
theorem tisE : Eqs Try.prog tis := Eqs.of_all (by kernel_rfl)
theorem tisD : Deep Try.prog tis := Deep.of_all (by kernel_rfl)
theorem mixed : Try.prog.follows .mixedOrders = true := by kernel_rfl
def codeOf (fn : Func) : Code := match fn.body with | some c => c | none => .skip
theorem g_0 : Good Try.prog ⟨tis, [], [], false⟩ := ⟨tisT, tisE, (fun f F h => by cases h), (fun f M h => by cases h), (fun h => by cases h)⟩
noncomputable def F_libJoin : Fn := libJoinF
theorem m_libJoin : Meets Try.prog 17 F_libJoin := meets_join ⟨Try.f17, codeOf Try.f17, Try.func17, by kernel_rfl, by kernel_rfl⟩ lay_Join0 lay_Join
noncomputable def fns_17 : List (FuncId × Fn) := (17, F_libJoin) :: []
theorem g_17 : Good Try.prog ⟨tis, fns_17, [], false⟩ := g_0.cons m_libJoin
noncomputable def laws_szPtS (a0 : List Pt) (left1 : Int) : Option Int :=
  let left1_1 := w64 (left1 - (a0.length : Int))
  cond (decide (left1_1 < 0)) (some (-1)) (some left1_1)
noncomputable def F_laws_szPtS : Fn := ⟨[.val false (.one (.sl cPt)) false, .val false (.one (.int .i64)) false], [.val false (.one (.int .i64)) (some true)], fun a => laws_szPtS a.1 a.2⟩
def a_laws_szPtS : List (Nat × LoopAnn) := []
theorem e_laws_szPtS : fnDen ⟨tis, fns_17, [], false⟩ a_laws_szPtS Try.f9 (codeOf Try.f9) [.val false (.one (.sl cPt)) false, .val false (.one (.int .i64)) false] [.val false (.one (.int .i64)) (some true)] = fun a => laws_szPtS a.1 a.2 := by kernel_rfl
theorem m_laws_szPtS : Meets Try.prog 9 F_laws_szPtS := by
  have h := meets_of (ann := a_laws_szPtS) (ps := [.val false (.one (.sl cPt)) false, .val false (.one (.int .i64)) false]) (rs := [.val false (.one (.int .i64)) (some true)]) g_17 mixed Try.func9 (by kernel_rfl) (by kernel_rfl : Try.f9.body = some (codeOf Try.f9))
  rw [e_laws_szPtS] at h
  exact h
noncomputable def fns_9 : List (FuncId × Fn) := (9, F_laws_szPtS) :: fns_17
theorem g_9 : Good Try.prog ⟨tis, fns_9, [], false⟩ := g_17.cons m_laws_szPtS
noncomputable def laws_szFentS (a0 : List Fent) (left1 : Int) : Option Int :=
  let left1_1 := w64 (left1 - (a0.length : Int))
  cond (decide (left1_1 < 0)) (some (-1)) (some left1_1)
noncomputable def F_laws_szFentS : Fn := ⟨[.val false (.one (.sl cFent)) false, .val false (.one (.int .i64)) false], [.val false (.one (.int .i64)) (some true)], fun a => laws_szFentS a.1 a.2⟩
def a_laws_szFentS : List (Nat × LoopAnn) := []
theorem e_laws_szFentS : fnDen ⟨tis, fns_9, [], false⟩ a_laws_szFentS Try.f10 (codeOf Try.f10) [.val false (.one (.sl cFent)) false, .val false (.one (.int .i64)) false] [.val false (.one (.int .i64)) (some true)] = fun a => laws_szFentS a.1 a.2 := by kernel_rfl
theorem m_laws_szFentS : Meets Try.prog 10 F_laws_szFentS := by
  have h := meets_of (ann := a_laws_szFentS) (ps := [.val false (.one (.sl cFent)) false, .val false (.one (.int .i64)) false]) (rs := [.val false (.one (.int .i64)) (some true)]) g_9 mixed Try.func10 (by kernel_rfl) (by kernel_rfl : Try.f10.body = some (codeOf Try.f10))
  rw [e_laws_szFentS] at h
  exact h
noncomputable def fns_10 : List (FuncId × Fn) := (10, F_laws_szFentS) :: fns_9
theorem g_10 : Good Try.prog ⟨tis, fns_10, [], false⟩ := g_9.cons m_laws_szFentS
noncomputable def laws_szVrowS (a0 : List Vrow) (left1 : Int) : Option Int :=
  let left1_1 := w64 (left1 - (a0.length : Int))
  cond (decide (left1_1 < 0)) (some (-1)) (some left1_1)
noncomputable def F_laws_szVrowS : Fn := ⟨[.val false (.one (.sl cVrow)) false, .val false (.one (.int .i64)) false], [.val false (.one (.int .i64)) (some true)], fun a => laws_szVrowS a.1 a.2⟩
def a_laws_szVrowS : List (Nat × LoopAnn) := []
theorem e_laws_szVrowS : fnDen ⟨tis, fns_10, [], false⟩ a_laws_szVrowS Try.f21 (codeOf Try.f21) [.val false (.one (.sl cVrow)) false, .val false (.one (.int .i64)) false] [.val false (.one (.int .i64)) (some true)] = fun a => laws_szVrowS a.1 a.2 := by kernel_rfl
theorem m_laws_szVrowS : Meets Try.prog 21 F_laws_szVrowS := by
  have h := meets_of (ann := a_laws_szVrowS) (ps := [.val false (.one (.sl cVrow)) false, .val false (.one (.int .i64)) false]) (rs := [.val false (.one (.int .i64)) (some true)]) g_10 mixed Try.func21 (by kernel_rfl) (by kernel_rfl : Try.f21.body = some (codeOf Try.f21))
  rw [e_laws_szVrowS] at h
  exact h
noncomputable def fns_21 : List (FuncId × Fn) := (21, F_laws_szVrowS) :: fns_10
theorem g_21 : Good Try.prog ⟨tis, fns_21, [], false⟩ := g_10.cons m_laws_szVrowS
noncomputable def laws_szIntS (a0 : List Int) (left1 : Int) : Option Int :=
  let left1_1 := w64 (left1 - (a0.length : Int))
  cond (decide (left1_1 < 0)) (some (-1)) (some left1_1)
noncomputable def F_laws_szIntS : Fn := ⟨[.val false (.one (.sl (.one (.int .i64)))) false, .val false (.one (.int .i64)) false], [.val false (.one (.int .i64)) (some true)], fun a => laws_szIntS a.1 a.2⟩
def a_laws_szIntS : List (Nat × LoopAnn) := []
theorem e_laws_szIntS : fnDen ⟨tis, fns_21, [], false⟩ a_laws_szIntS Try.f22 (codeOf Try.f22) [.val false (.one (.sl (.one (.int .i64)))) false, .val false (.one (.int .i64)) false] [.val false (.one (.int .i64)) (some true)] = fun a => laws_szIntS a.1 a.2 := by kernel_rfl
theorem m_laws_szIntS : Meets Try.prog 22 F_laws_szIntS := by
  have h := meets_of (ann := a_laws_szIntS) (ps := [.val false (.one (.sl (.one (.int .i64)))) false, .val false (.one (.int .i64)) false]) (rs := [.val false (.one (.int .i64)) (some true)]) g_21 mixed Try.func22 (by kernel_rfl) (by kernel_rfl : Try.f22.body = some (codeOf Try.f22))
  rw [e_laws_szIntS] at h
  exact h
noncomputable def fns_22 : List (FuncId × Fn) := (22, F_laws_szIntS) :: fns_21
theorem g_22 : Good Try.prog ⟨tis, fns_22, [], false⟩ := g_21.cons m_laws_szIntS
noncomputable def laws_szVtab (a0 : Vtab) (left1 : Int) : Option Int :=
  (laws_szVrowS a0.1 left1).bind fun t8 =>
  cond (decide (t8 < 0))
    (some (-1))
    ((laws_szIntS a0.2 t8).bind fun t14 =>
    cond (decide (t14 < 0)) (some (-1)) (some t14))
noncomputable def F_laws_szVtab : Fn := ⟨[.val true cVtab false, .val false (.one (.int .i64)) false], [.val false (.one (.int .i64)) (some true)], fun a => laws_szVtab a.1 a.2⟩
def a_laws_szVtab : List (Nat × LoopAnn) := []
theorem e_laws_szVtab : fnDen ⟨tis, fns_22, [], false⟩ a_laws_szVtab Try.f11 (codeOf Try.f11) [.val true cVtab false, .val false (.one (.int .i64)) false] [.val false (.one (.int .i64)) (some true)] = fun a => laws_szVtab a.1 a.2 := by kernel_rfl
theorem m_laws_szVtab : Meets Try.prog 11 F_laws_szVtab := by
  have h := meets_of (ann := a_laws_szVtab) (ps := [.val true cVtab false, .val false (.one (.int .i64)) false]) (rs := [.val false (.one (.int .i64)) (some true)]) g_22 mixed Try.func11 (by kernel_rfl) (by kernel_rfl : Try.f11.body = some (codeOf Try.f11))
  rw [e_laws_szVtab] at h
  exact h
noncomputable def fns_11 : List (FuncId × Fn) := (11, F_laws_szVtab) :: fns_22
theorem g_11 : Good Try.prog ⟨tis, fns_11, [], false⟩ := g_22.cons m_laws_szVtab
noncomputable def laws_szBridge (a0 : Bridge) (left1 : Int) : Option Int :=
  let left1_1 := w64 (left1 - (a0.2.1.length : Int))
  cond (decide (left1_1 < 0))
    (some (-1))
    ((laws_szPtS a0.2.2.1 left1_1).bind fun t15 =>
    cond (decide (t15 < 0))
      (some (-1))
      ((laws_szFentS a0.2.2.2.1 t15).bind fun t21 =>
      cond (decide (t21 < 0))
        (some (-1))
        ((laws_szVtab (a0.2.2.2.2.1, a0.2.2.2.2.2.1) t21).bind fun t27 =>
        cond (decide (t27 < 0)) (some (-1)) (some t27))))
noncomputable def F_laws_szBridge : Fn := ⟨[.val true cBridge false, .val false (.one (.int .i64)) false], [.val false (.one (.int .i64)) (some true)], fun a => laws_szBridge a.1 a.2⟩
def a_laws_szBridge : List (Nat × LoopAnn) := []
theorem e_laws_szBridge : fnDen ⟨tis, fns_11, [], false⟩ a_laws_szBridge Try.f4 (codeOf Try.f4) [.val true cBridge false, .val false (.one (.int .i64)) false] [.val false (.one (.int .i64)) (some true)] = fun a => laws_szBridge a.1 a.2 := by kernel_rfl
theorem m_laws_szBridge : Meets Try.prog 4 F_laws_szBridge := by
  have h := meets_of (ann := a_laws_szBridge) (ps := [.val true cBridge false, .val false (.one (.int .i64)) false]) (rs := [.val false (.one (.int .i64)) (some true)]) g_11 mixed Try.func4 (by kernel_rfl) (by kernel_rfl : Try.f4.body = some (codeOf Try.f4))
  rw [e_laws_szBridge] at h
  exact h
noncomputable def fns_4 : List (FuncId × Fn) := (4, F_laws_szBridge) :: fns_11
theorem g_4 : Good Try.prog ⟨tis, fns_4, [], false⟩ := g_11.cons m_laws_szBridge
noncomputable def spec_l1In (x0 : Int) (least1 : Int) (most2 : Int) : Option Bool :=
  (cond (decide (x0 ≥ least1)) (some (decide (x0 ≤ most2))) (some false)).bind fun t14 =>
  some t14
noncomputable def F_spec_l1In : Fn := ⟨[.val false (.one (.int .i64)) false, .val false (.one (.int .i64)) false, .val false (.one (.int .i64)) false], [.val false (.one .bool) (some true)], fun a => spec_l1In a.1 a.2.1 a.2.2⟩
def a_spec_l1In : List (Nat × LoopAnn) := []
theorem e_spec_l1In : fnDen ⟨tis, fns_4, [], false⟩ a_spec_l1In Try.f23 (codeOf Try.f23) [.val false (.one (.int .i64)) false, .val false (.one (.int .i64)) false, .val false (.one (.int .i64)) false] [.val false (.one .bool) (some true)] = fun a => spec_l1In a.1 a.2.1 a.2.2 := by kernel_rfl
theorem m_spec_l1In : Meets Try.prog 23 F_spec_l1In := by
  have h := meets_of (ann := a_spec_l1In) (ps := [.val false (.one (.int .i64)) false, .val false (.one (.int .i64)) false, .val false (.one (.int .i64)) false]) (rs := [.val false (.one .bool) (some true)]) g_4 mixed Try.func23 (by kernel_rfl) (by kernel_rfl : Try.f23.body = some (codeOf Try.f23))
  rw [e_spec_l1In] at h
  exact h
noncomputable def fns_23 : List (FuncId × Fn) := (23, F_spec_l1In) :: fns_4
theorem g_23 : Good Try.prog ⟨tis, fns_23, [], false⟩ := g_4.cons m_spec_l1In
noncomputable def spec_LessVec (a0 : Vec) (b1 : Vec) : Option Bool :=
  cond (a0.1 != b1.1)
    (some (decide (a0.1 < b1.1)))
    (cond (a0.2.1 != b1.2.1)
      (some (decide (a0.2.1 < b1.2.1)))
      (cond (a0.2.2.2.1 != b1.2.2.2.1)
        (let t4 := decide (a0.2.2.2.1 < b1.2.2.2.1)
        some t4)
        (let t4_1 := decide (a0.2.2.2.2 < b1.2.2.2.2)
        some t4_1)))
noncomputable def F_spec_LessVec : Fn := ⟨[.val true cVec false, .val true cVec false], [.val false (.one .bool) (some true)], fun a => spec_LessVec a.1 a.2⟩
def a_spec_LessVec : List (Nat × LoopAnn) := []
theorem e_spec_LessVec : fnDen ⟨tis, fns_23, [], false⟩ a_spec_LessVec Try.f25 (codeOf Try.f25) [.val true cVec false, .val true cVec false] [.val false (.one .bool) (some true)] = fun a => spec_LessVec a.1 a.2 := by kernel_rfl
theorem m_spec_LessVec : Meets Try.prog 25 F_spec_LessVec := by
  have h := meets_of (ann := a_spec_LessVec) (ps := [.val true cVec false, .val true cVec false]) (rs := [.val false (.one .bool) (some true)]) g_23 mixed Try.func25 (by kernel_rfl) (by kernel_rfl : Try.f25.body = some (codeOf Try.f25))
  rw [e_spec_LessVec] at h
  exact h
noncomputable def fns_25 : List (FuncId × Fn) := (25, F_spec_LessVec) :: fns_23
theorem g_25 : Good Try.prog ⟨tis, fns_25, [], false⟩ := g_23.cons m_spec_LessVec
noncomputable def spec_VecOk (v0 : Vec) : Option Bool :=
  (spec_l1In v0.1 1 99).bind fun t5 =>
  (cond t5
    ((spec_l1In v0.2.1 0 100000).bind fun t9 =>
    some t9)
    (some false)).bind fun t10 =>
  (cond t10
    ((spec_l1In v0.2.2.1 0 10).bind fun t14 =>
    some t14)
    (some false)).bind fun t15 =>
  (cond t15
    ((spec_l1In v0.2.2.2.1 1 99).bind fun t19 =>
    some t19)
    (some false)).bind fun t20 =>
  (cond t20
    ((spec_l1In v0.2.2.2.2 0 7).bind fun t24 =>
    some t24)
    (some false)).bind fun t25 =>
  some t25
noncomputable def F_spec_VecOk : Fn := ⟨[.val true cVec false], [.val false (.one .bool) (some true)], fun a => spec_VecOk a⟩
def a_spec_VecOk : List (Nat × LoopAnn) := []
theorem e_spec_VecOk : fnDen ⟨tis, fns_25, [], false⟩ a_spec_VecOk Try.f50 (codeOf Try.f50) [.val true cVec false] [.val false (.one .bool) (some true)] = fun a => spec_VecOk a := by kernel_rfl
theorem m_spec_VecOk : Meets Try.prog 50 F_spec_VecOk := by
  have h := meets_of (ann := a_spec_VecOk) (ps := [.val true cVec false]) (rs := [.val false (.one .bool) (some true)]) g_25 mixed Try.func50 (by kernel_rfl) (by kernel_rfl : Try.f50.body = some (codeOf Try.f50))
  rw [e_spec_VecOk] at h
  exact h
noncomputable def fns_50 : List (FuncId × Fn) := (50, F_spec_VecOk) :: fns_25
theorem g_50 : Good Try.prog ⟨tis, fns_50, [], false⟩ := g_25.cons m_spec_VecOk
noncomputable def spec_StepVec (v0 : Vec) (cost1 : Int) : Option (Vec × Bool) :=
  (spec_VecOk v0).bind fun t8 =>
  (cond (!t8)
    (some true)
    ((spec_l1In cost1 1 1000).bind fun t12 =>
    some (!t12))).bind fun t14 =>
  cond t14
    (some (v0, false))
    ((spec_VecOk (v0.1, w64 (v0.2.1 + cost1), w64 (v0.2.2.1 + 1), v0.2.2.2.1, v0.2.2.2.2)).bind fun t27 =>
    cond (!t27)
      (some (v0, false))
      (some ((v0.1, w64 (v0.2.1 + cost1), w64 (v0.2.2.1 + 1), v0.2.2.2.1, v0.2.2.2.2), true)))
noncomputable def F_spec_StepVec : Fn := ⟨[.val true cVec false, .val false (.one (.int .i64)) false], [.val true cVec (some true), .val false (.one .bool) (some true)], fun a => spec_StepVec a.1 a.2⟩
def a_spec_StepVec : List (Nat × LoopAnn) := []
theorem e_spec_StepVec : fnDen ⟨tis, fns_50, [], false⟩ a_spec_StepVec Try.f42 (codeOf Try.f42) [.val true cVec false, .val false (.one (.int .i64)) false] [.val true cVec (some true), .val false (.one .bool) (some true)] = fun a => spec_StepVec a.1 a.2 := by kernel_rfl
theorem m_spec_StepVec : Meets Try.prog 42 F_spec_StepVec := by
  have h := meets_of (ann := a_spec_StepVec) (ps := [.val true cVec false, .val false (.one (.int .i64)) false]) (rs := [.val true cVec (some true), .val false (.one .bool) (some true)]) g_50 mixed Try.func42 (by kernel_rfl) (by kernel_rfl : Try.f42.body = some (codeOf Try.f42))
  rw [e_spec_StepVec] at h
  exact h
noncomputable def fns_42 : List (FuncId × Fn) := (42, F_spec_StepVec) :: fns_50
theorem g_42 : Good Try.prog ⟨tis, fns_42, [], false⟩ := g_50.cons m_spec_StepVec
noncomputable def spec_BestVec_l0 (p0 : Int) (i1 : List Pt) (t8 : Int) (t9 : Int) (b0 : Int) (b1 : Int) (b2 : Int) (b3 : Int) (b4 : Int) (b0_1 : Int) (b1_1 : Int) (b2_1 : Int) (b3_1 : Int) (b4_1 : Int) : Option ((Int × Int × Int × Int × Int × Int × Int × Int × Int × Int × Int × Int) ⊕ (Int × Int × Int × Int × Int × Int × Int × Int × Int × Int × Int)) :=
  cond (decide (t9 < (i1.length : Int)))
    ((at? i1 t9).bind fun x24 =>
    (cond (!x24.1)
      (some true)
      ((at? i1 t9).bind fun x31 =>
      some (!x31.2.2.1))).bind fun t35 =>
    cond t35
      (some (.inl (t8, w64 (t9 + 1), b0, b1, b2, b3, b4, b0_1, b1_1, b2_1, b3_1, b4_1)))
      ((at? i1 t9).bind fun x39 =>
      (at? i1 t9).bind fun x44 =>
      (spec_StepVec x39.2.2.2 x44.2.1).bind fun t47 =>
      (cond t47.2 (some (decide (t47.1.1 < p0))) (some false)).bind fun t56 =>
      (cond t56
        ((cond (decide (t8 < 0))
          (some true)
          ((spec_LessVec t47.1 (b0_1, b1_1, b2_1, b3_1, b4_1)).bind fun t63 =>
          some t63)).bind fun t64 =>
        some t64)
        (some false)).bind fun t65 =>
      cond t65
        (some (.inl (t9, w64 (t9 + 1), t47.1.1, t47.1.2.1, t47.1.2.2.1, p0, 0, t47.1.1, t47.1.2.1, t47.1.2.2.1, t47.1.2.2.2.1, t47.1.2.2.2.2)))
        (some (.inl (t8, w64 (t9 + 1), b0, b1, b2, b3, b4, b0_1, b1_1, b2_1, b3_1, b4_1)))))
    (some (.inr (t8, b0, b1, b2, b3, b4, b0_1, b1_1, b2_1, b3_1, b4_1)))
noncomputable def spec_BestVec (p0 : Int) (i1 : List Pt) : Option (Vec × Int) :=
  (loop (fun z => spec_BestVec_l0 p0 i1 z.1 z.2.1 z.2.2.1 z.2.2.2.1 z.2.2.2.2.1 z.2.2.2.2.2.1 z.2.2.2.2.2.2.1 z.2.2.2.2.2.2.2.1 z.2.2.2.2.2.2.2.2.1 z.2.2.2.2.2.2.2.2.2.1 z.2.2.2.2.2.2.2.2.2.2.1 z.2.2.2.2.2.2.2.2.2.2.2) ((-1), 0, p0, 0, 0, p0, 0, 0, 0, 0, 0, 0)).bind fun d =>
  some ((d.2.1, d.2.2.1, d.2.2.2.1, d.2.2.2.2.1, d.2.2.2.2.2.1), d.1)
noncomputable def F_spec_BestVec : Fn := ⟨[.val false (.one (.int .i64)) false, .val false (.one (.sl cPt)) false], [.val true cVec (some true), .val false (.one (.int .i64)) (some true)], fun a => spec_BestVec a.1 a.2⟩
def a_spec_BestVec : List (Nat × LoopAnn) := [(0, ⟨⟨[(8, false, [.dat (.int .i64)]), (9, false, [.dat (.int .i64)]), (29, false, [.undef]), (30, false, [.undef]), (31, false, [.undef]), (32, false, [.undef]), (33, false, [.undef]), (34, false, [.undef]), (52, false, [.undef]), (53, false, [.undef]), (54, false, [.undef]), (55, false, [.undef]), (58, false, [.undef]), (59, false, [.undef]), (60, false, [.undef]), (61, false, [.undef]), (62, false, [.undef]), (63, false, [.undef]), (64, false, [.undef])], [(266240, .box [.dat (.int .i64), .dat (.int .i64), .dat (.int .i64), .dat (.int .i64), .dat (.int .i64)]), (526336, .box [.dat (.int .i64), .dat (.int .i64), .dat (.int .i64), .dat (.int .i64), .dat (.int .i64)])]⟩,
    ⟨[(8, false, [.dat (.int .i64)])], [(266240, .box [.dat (.int .i64), .dat (.int .i64), .dat (.int .i64), .dat (.int .i64), .dat (.int .i64)]), (526336, .box [.dat (.int .i64), .dat (.int .i64), .dat (.int .i64), .dat (.int .i64), .dat (.int .i64)])]⟩, none⟩)]
theorem e_spec_BestVec : fnDen ⟨tis, fns_42, [], false⟩ a_spec_BestVec Try.f24 (codeOf Try.f24) [.val false (.one (.int .i64)) false, .val false (.one (.sl cPt)) false] [.val true cVec (some true), .val false (.one (.int .i64)) (some true)] = fun a => spec_BestVec a.1 a.2 := by kernel_rfl
theorem m_spec_BestVec : Meets Try.prog 24 F_spec_BestVec := by
  have h := meets_of (ann := a_spec_BestVec) (ps := [.val false (.one (.int .i64)) false, .val false (.one (.sl cPt)) false]) (rs := [.val true cVec (some true), .val false (.one (.int .i64)) (some true)]) g_42 mixed Try.func24 (by kernel_rfl) (by kernel_rfl : Try.f24.body = some (codeOf Try.f24))
  rw [e_spec_BestVec] at h
  exact h
noncomputable def fns_24 : List (FuncId × Fn) := (24, F_spec_BestVec) :: fns_42
theorem g_24 : Good Try.prog ⟨tis, fns_24, [], false⟩ := g_42.cons m_spec_BestVec
noncomputable def spec_SayVec (id0 : Int) (l1 : List Pt) (port2 : Int) : Option Vec :=
  (spec_BestVec id0 l1).bind fun t12 =>
  some (t12.1.1, t12.1.2.1, t12.1.2.2.1, t12.1.2.2.2.1, port2)
noncomputable def F_spec_SayVec : Fn := ⟨[.val false (.one (.int .i64)) false, .val false (.one (.sl cPt)) false, .val false (.one (.int .i64)) false], [.val true cVec (some true)], fun a => spec_SayVec a.1 a.2.1 a.2.2⟩
def a_spec_SayVec : List (Nat × LoopAnn) := []
theorem e_spec_SayVec : fnDen ⟨tis, fns_24, [], false⟩ a_spec_SayVec Try.f26 (codeOf Try.f26) [.val false (.one (.int .i64)) false, .val false (.one (.sl cPt)) false, .val false (.one (.int .i64)) false] [.val true cVec (some true)] = fun a => spec_SayVec a.1 a.2.1 a.2.2 := by kernel_rfl
theorem m_spec_SayVec : Meets Try.prog 26 F_spec_SayVec := by
  have h := meets_of (ann := a_spec_SayVec) (ps := [.val false (.one (.int .i64)) false, .val false (.one (.sl cPt)) false, .val false (.one (.int .i64)) false]) (rs := [.val true cVec (some true)]) g_24 mixed Try.func26 (by kernel_rfl) (by kernel_rfl : Try.f26.body = some (codeOf Try.f26))
  rw [e_spec_SayVec] at h
  exact h
noncomputable def fns_26 : List (FuncId × Fn) := (26, F_spec_SayVec) :: fns_24
theorem g_26 : Good Try.prog ⟨tis, fns_26, [], false⟩ := g_24.cons m_spec_SayVec
noncomputable def spec_RoleOf (id0 : Int) (l1 : List Pt) (port2 : Int) : Option Int :=
  (spec_l1In port2 0 (w64 ((l1.length : Int) - 1))).bind fun t13 =>
  (cond (!t13)
    (some true)
    ((at? l1 port2).bind fun x18 =>
    some (!x18.1))).bind fun t22 =>
  cond t22
    (some 4)
    ((spec_BestVec id0 l1).bind fun t26 =>
    cond (t26.2 == port2)
      (some 1)
      ((at? l1 port2).bind fun x36 =>
      (cond (!x36.2.2.1)
        (some true)
        ((spec_SayVec id0 l1 port2).bind fun t44 =>
        (at? l1 port2).bind fun x47 =>
        (spec_LessVec t44 x47.2.2.2).bind fun t50 =>
        some t50)).bind fun t51 =>
      cond t51 (some 2) (some 3)))
noncomputable def F_spec_RoleOf : Fn := ⟨[.val false (.one (.int .i64)) false, .val false (.one (.sl cPt)) false, .val false (.one (.int .i64)) false], [.val false (.one (.int .i64)) (some true)], fun a => spec_RoleOf a.1 a.2.1 a.2.2⟩
def a_spec_RoleOf : List (Nat × LoopAnn) := []
theorem e_spec_RoleOf : fnDen ⟨tis, fns_26, [], false⟩ a_spec_RoleOf Try.f12 (codeOf Try.f12) [.val false (.one (.int .i64)) false, .val false (.one (.sl cPt)) false, .val false (.one (.int .i64)) false] [.val false (.one (.int .i64)) (some true)] = fun a => spec_RoleOf a.1 a.2.1 a.2.2 := by kernel_rfl
theorem m_spec_RoleOf : Meets Try.prog 12 F_spec_RoleOf := by
  have h := meets_of (ann := a_spec_RoleOf) (ps := [.val false (.one (.int .i64)) false, .val false (.one (.sl cPt)) false, .val false (.one (.int .i64)) false]) (rs := [.val false (.one (.int .i64)) (some true)]) g_26 mixed Try.func12 (by kernel_rfl) (by kernel_rfl : Try.f12.body = some (codeOf Try.f12))
  rw [e_spec_RoleOf] at h
  exact h
noncomputable def fns_12 : List (FuncId × Fn) := (12, F_spec_RoleOf) :: fns_26
theorem g_12 : Good Try.prog ⟨tis, fns_12, [], false⟩ := g_26.cons m_spec_RoleOf
noncomputable def spec_RolesText_l0 (b0 : Bridge) (s3 : List UInt8) (i4 : Int) : Option ((List UInt8 × Int) ⊕ (List UInt8)) :=
  cond (decide (i4 < (b0.2.2.1.length : Int)))
    (cond (decide (i4 > 0))
      ((cat s3 [32]).bind fun t15 =>
      (spec_RoleOf b0.1 b0.2.2.1 i4).bind fun t21 =>
      cond (t21 == 1)
        ((cat t15 [114, 111, 111, 116]).bind fun t27 =>
        some (.inl (t27, w64 (i4 + 1))))
        (cond (t21 == 2)
          ((cat t15 [116, 111, 108, 100]).bind fun t31 =>
          some (.inl (t31, w64 (i4 + 1))))
          (cond (t21 == 3)
            ((cat t15 [105, 100, 108, 101]).bind fun t35 =>
            some (.inl (t35, w64 (i4 + 1))))
            ((cat t15 [100, 111, 119, 110]).bind fun t23 =>
            some (.inl (t23, w64 (i4 + 1)))))))
      ((spec_RoleOf b0.1 b0.2.2.1 i4).bind fun t21_1 =>
      cond (t21_1 == 1)
        ((cat s3 [114, 111, 111, 116]).bind fun t27_1 =>
        some (.inl (t27_1, w64 (i4 + 1))))
        (cond (t21_1 == 2)
          ((cat s3 [116, 111, 108, 100]).bind fun t31_1 =>
          some (.inl (t31_1, w64 (i4 + 1))))
          (cond (t21_1 == 3)
            ((cat s3 [105, 100, 108, 101]).bind fun t35_1 =>
            some (.inl (t35_1, w64 (i4 + 1))))
            ((cat s3 [100, 111, 119, 110]).bind fun t23_1 =>
            some (.inl (t23_1, w64 (i4 + 1))))))))
    (some (.inr s3))
noncomputable def spec_RolesText (b0 : Bridge) : Option (List UInt8) :=
  (loop (fun z => spec_RolesText_l0 b0 z.1 z.2) ([], 0)).bind fun d =>
  some d
noncomputable def F_spec_RolesText : Fn := ⟨[.val true cBridge false], [.val false (.one .str) (some true)], fun a => spec_RolesText a⟩
def a_spec_RolesText : List (Nat × LoopAnn) := [(0, ⟨⟨[(3, false, [.dat .str]), (4, false, [.dat (.int .i64)])], []⟩,
    ⟨[(3, false, [.dat .str])], []⟩, none⟩)]
theorem e_spec_RolesText : fnDen ⟨tis, fns_12, [], false⟩ a_spec_RolesText Try.f5 (codeOf Try.f5) [.val true cBridge false] [.val false (.one .str) (some true)] = fun a => spec_RolesText a := by kernel_rfl
theorem m_spec_RolesText : Meets Try.prog 5 F_spec_RolesText := by
  have h := meets_of (ann := a_spec_RolesText) (ps := [.val true cBridge false]) (rs := [.val false (.one .str) (some true)]) g_12 mixed Try.func5 (by kernel_rfl) (by kernel_rfl : Try.f5.body = some (codeOf Try.f5))
  rw [e_spec_RolesText] at h
  exact h
noncomputable def fns_5 : List (FuncId × Fn) := (5, F_spec_RolesText) :: fns_12
theorem g_5 : Good Try.prog ⟨tis, fns_5, [], false⟩ := g_12.cons m_spec_RolesText
noncomputable def laws_toVec (a0 : Vec) : Option Vec :=
  some a0
noncomputable def F_laws_toVec : Fn := ⟨[.val true cVec false], [.val true cVec (some true)], fun a => laws_toVec a⟩
def a_laws_toVec : List (Nat × LoopAnn) := []
theorem e_laws_toVec : fnDen ⟨tis, fns_5, [], false⟩ a_laws_toVec Try.f43 (codeOf Try.f43) [.val true cVec false] [.val true cVec (some true)] = fun a => laws_toVec a := by kernel_rfl
theorem m_laws_toVec : Meets Try.prog 43 F_laws_toVec := by
  have h := meets_of (ann := a_laws_toVec) (ps := [.val true cVec false]) (rs := [.val true cVec (some true)]) g_5 mixed Try.func43 (by kernel_rfl) (by kernel_rfl : Try.f43.body = some (codeOf Try.f43))
  rw [e_laws_toVec] at h
  exact h
noncomputable def fns_43 : List (FuncId × Fn) := (43, F_laws_toVec) :: fns_5
theorem g_43 : Good Try.prog ⟨tis, fns_43, [], false⟩ := g_5.cons m_laws_toVec
noncomputable def laws_toPt (a0 : Pt) : Option Pt :=
  (laws_toVec a0.2.2.2).bind fun t15 =>
  some (a0.1, a0.2.1, a0.2.2.1, t15.1, t15.2.1, t15.2.2.1, t15.2.2.2.1, t15.2.2.2.2)
noncomputable def F_laws_toPt : Fn := ⟨[.val true cPt false], [.val true cPt (some true)], fun a => laws_toPt a⟩
def a_laws_toPt : List (Nat × LoopAnn) := []
theorem e_laws_toPt : fnDen ⟨tis, fns_43, [], false⟩ a_laws_toPt Try.f27 (codeOf Try.f27) [.val true cPt false] [.val true cPt (some true)] = fun a => laws_toPt a := by kernel_rfl
theorem m_laws_toPt : Meets Try.prog 27 F_laws_toPt := by
  have h := meets_of (ann := a_laws_toPt) (ps := [.val true cPt false]) (rs := [.val true cPt (some true)]) g_43 mixed Try.func27 (by kernel_rfl) (by kernel_rfl : Try.f27.body = some (codeOf Try.f27))
  rw [e_laws_toPt] at h
  exact h
noncomputable def fns_27 : List (FuncId × Fn) := (27, F_laws_toPt) :: fns_43
theorem g_27 : Good Try.prog ⟨tis, fns_27, [], false⟩ := g_43.cons m_laws_toPt
noncomputable def laws_toPtS_l0 (a0 : List Pt) (i4 : Int) (l : List Pt) : Option ((Int × List Pt) ⊕ (List Pt)) :=
  cond (decide (i4 < (a0.length : Int)))
    ((at? a0 i4).bind fun x18 =>
    (laws_toPt x18).bind fun t20 =>
    (ix l.length i4).bind fun j21 =>
    (l[j21]?).bind fun x =>
    some (.inl (w64 (i4 + 1), l.set j21 t20)))
    (some (.inr l))
noncomputable def laws_toPtS (a0 : List Pt) : Option (List Pt) :=
  (mkLen (a0.length : Int)).bind fun n =>
  (loop (fun z => laws_toPtS_l0 a0 z.1 z.2) (0, List.replicate n ((false, 0, false, 0, 0, 0, 0, 0) : Pt))).bind fun d =>
  some d
noncomputable def F_laws_toPtS : Fn := ⟨[.val false (.one (.sl cPt)) false], [.val false (.one (.sl cPt)) (some true)], fun a => laws_toPtS a⟩
def a_laws_toPtS : List (Nat × LoopAnn) := [(0, ⟨⟨[(4, false, [.dat (.int .i64)])], [(265216, .keep cPt true)]⟩,
    ⟨[], [(265216, .keep cPt true)]⟩, none⟩)]
theorem e_laws_toPtS : fnDen ⟨tis, fns_27, [], false⟩ a_laws_toPtS Try.f13 (codeOf Try.f13) [.val false (.one (.sl cPt)) false] [.val false (.one (.sl cPt)) (some true)] = fun a => laws_toPtS a := by kernel_rfl
theorem m_laws_toPtS : Meets Try.prog 13 F_laws_toPtS := by
  have h := meets_of (ann := a_laws_toPtS) (ps := [.val false (.one (.sl cPt)) false]) (rs := [.val false (.one (.sl cPt)) (some true)]) g_27 mixed Try.func13 (by kernel_rfl) (by kernel_rfl : Try.f13.body = some (codeOf Try.f13))
  rw [e_laws_toPtS] at h
  exact h
noncomputable def fns_13 : List (FuncId × Fn) := (13, F_laws_toPtS) :: fns_27
theorem g_13 : Good Try.prog ⟨tis, fns_13, [], false⟩ := g_27.cons m_laws_toPtS
noncomputable def laws_toFent (a0 : Fent) : Option Fent :=
  some a0
noncomputable def F_laws_toFent : Fn := ⟨[.val true cFent false], [.val true cFent (some true)], fun a => laws_toFent a⟩
def a_laws_toFent : List (Nat × LoopAnn) := []
theorem e_laws_toFent : fnDen ⟨tis, fns_13, [], false⟩ a_laws_toFent Try.f28 (codeOf Try.f28) [.val true cFent false] [.val true cFent (some true)] = fun a => laws_toFent a := by kernel_rfl
theorem m_laws_toFent : Meets Try.prog 28 F_laws_toFent := by
  have h := meets_of (ann := a_laws_toFent) (ps := [.val true cFent false]) (rs := [.val true cFent (some true)]) g_13 mixed Try.func28 (by kernel_rfl) (by kernel_rfl : Try.f28.body = some (codeOf Try.f28))
  rw [e_laws_toFent] at h
  exact h
noncomputable def fns_28 : List (FuncId × Fn) := (28, F_laws_toFent) :: fns_13
theorem g_28 : Good Try.prog ⟨tis, fns_28, [], false⟩ := g_13.cons m_laws_toFent
noncomputable def laws_toFentS_l0 (a0 : List Fent) (i4 : Int) (l : List Fent) : Option ((Int × List Fent) ⊕ (List Fent)) :=
  cond (decide (i4 < (a0.length : Int)))
    ((at? a0 i4).bind fun x18 =>
    (laws_toFent x18).bind fun t20 =>
    (ix l.length i4).bind fun j21 =>
    (l[j21]?).bind fun x =>
    some (.inl (w64 (i4 + 1), l.set j21 t20)))
    (some (.inr l))
noncomputable def laws_toFentS (a0 : List Fent) : Option (List Fent) :=
  (mkLen (a0.length : Int)).bind fun n =>
  (loop (fun z => laws_toFentS_l0 a0 z.1 z.2) (0, List.replicate n ((0, 0, 0, 0, false) : Fent))).bind fun d =>
  some d
noncomputable def F_laws_toFentS : Fn := ⟨[.val false (.one (.sl cFent)) false], [.val false (.one (.sl cFent)) (some true)], fun a => laws_toFentS a⟩
def a_laws_toFentS : List (Nat × LoopAnn) := [(0, ⟨⟨[(4, false, [.dat (.int .i64)])], [(265216, .keep cFent true)]⟩,
    ⟨[], [(265216, .keep cFent true)]⟩, none⟩)]
theorem e_laws_toFentS : fnDen ⟨tis, fns_28, [], false⟩ a_laws_toFentS Try.f14 (codeOf Try.f14) [.val false (.one (.sl cFent)) false] [.val false (.one (.sl cFent)) (some true)] = fun a => laws_toFentS a := by kernel_rfl
theorem m_laws_toFentS : Meets Try.prog 14 F_laws_toFentS := by
  have h := meets_of (ann := a_laws_toFentS) (ps := [.val false (.one (.sl cFent)) false]) (rs := [.val false (.one (.sl cFent)) (some true)]) g_28 mixed Try.func14 (by kernel_rfl) (by kernel_rfl : Try.f14.body = some (codeOf Try.f14))
  rw [e_laws_toFentS] at h
  exact h
noncomputable def fns_14 : List (FuncId × Fn) := (14, F_laws_toFentS) :: fns_28
theorem g_14 : Good Try.prog ⟨tis, fns_14, [], false⟩ := g_28.cons m_laws_toFentS
noncomputable def laws_toVrow (a0 : Vrow) : Option Vrow :=
  some a0
noncomputable def F_laws_toVrow : Fn := ⟨[.val true cVrow false], [.val true cVrow (some true)], fun a => laws_toVrow a⟩
def a_laws_toVrow : List (Nat × LoopAnn) := []
theorem e_laws_toVrow : fnDen ⟨tis, fns_14, [], false⟩ a_laws_toVrow Try.f44 (codeOf Try.f44) [.val true cVrow false] [.val true cVrow (some true)] = fun a => laws_toVrow a := by kernel_rfl
theorem m_laws_toVrow : Meets Try.prog 44 F_laws_toVrow := by
  have h := meets_of (ann := a_laws_toVrow) (ps := [.val true cVrow false]) (rs := [.val true cVrow (some true)]) g_14 mixed Try.func44 (by kernel_rfl) (by kernel_rfl : Try.f44.body = some (codeOf Try.f44))
  rw [e_laws_toVrow] at h
  exact h
noncomputable def fns_44 : List (FuncId × Fn) := (44, F_laws_toVrow) :: fns_14
theorem g_44 : Good Try.prog ⟨tis, fns_44, [], false⟩ := g_14.cons m_laws_toVrow
noncomputable def laws_toVrowS_l0 (a0 : List Vrow) (i4 : Int) (l : List Vrow) : Option ((Int × List Vrow) ⊕ (List Vrow)) :=
  cond (decide (i4 < (a0.length : Int)))
    ((at? a0 i4).bind fun x18 =>
    (laws_toVrow x18).bind fun t20 =>
    (ix l.length i4).bind fun j21 =>
    (l[j21]?).bind fun x =>
    some (.inl (w64 (i4 + 1), l.set j21 t20)))
    (some (.inr l))
noncomputable def laws_toVrowS (a0 : List Vrow) : Option (List Vrow) :=
  (mkLen (a0.length : Int)).bind fun n =>
  (loop (fun z => laws_toVrowS_l0 a0 z.1 z.2) (0, List.replicate n ((0, 0, 0) : Vrow))).bind fun d =>
  some d
noncomputable def F_laws_toVrowS : Fn := ⟨[.val false (.one (.sl cVrow)) false], [.val false (.one (.sl cVrow)) (some true)], fun a => laws_toVrowS a⟩
def a_laws_toVrowS : List (Nat × LoopAnn) := [(0, ⟨⟨[(4, false, [.dat (.int .i64)])], [(265216, .keep cVrow true)]⟩,
    ⟨[], [(265216, .keep cVrow true)]⟩, none⟩)]
theorem e_laws_toVrowS : fnDen ⟨tis, fns_44, [], false⟩ a_laws_toVrowS Try.f29 (codeOf Try.f29) [.val false (.one (.sl cVrow)) false] [.val false (.one (.sl cVrow)) (some true)] = fun a => laws_toVrowS a := by kernel_rfl
theorem m_laws_toVrowS : Meets Try.prog 29 F_laws_toVrowS := by
  have h := meets_of (ann := a_laws_toVrowS) (ps := [.val false (.one (.sl cVrow)) false]) (rs := [.val false (.one (.sl cVrow)) (some true)]) g_44 mixed Try.func29 (by kernel_rfl) (by kernel_rfl : Try.f29.body = some (codeOf Try.f29))
  rw [e_laws_toVrowS] at h
  exact h
noncomputable def fns_29 : List (FuncId × Fn) := (29, F_laws_toVrowS) :: fns_44
theorem g_29 : Good Try.prog ⟨tis, fns_29, [], false⟩ := g_44.cons m_laws_toVrowS
noncomputable def laws_toIntS_l0 (a0 : List Int) (i4 : Int) (l : List Int) : Option ((Int × List Int) ⊕ (List Int)) :=
  cond (decide (i4 < (a0.length : Int)))
    ((at? a0 i4).bind fun x18 =>
    (ix l.length i4).bind fun j20 =>
    (l[j20]?).bind fun x =>
    some (.inl (w64 (i4 + 1), l.set j20 x18)))
    (some (.inr l))
noncomputable def laws_toIntS (a0 : List Int) : Option (List Int) :=
  (mkLen (a0.length : Int)).bind fun n =>
  (loop (fun z => laws_toIntS_l0 a0 z.1 z.2) (0, List.replicate n (0 : Int))).bind fun d =>
  some d
noncomputable def F_laws_toIntS : Fn := ⟨[.val false (.one (.sl (.one (.int .i64)))) false], [.val false (.one (.sl (.one (.int .i64)))) (some true)], fun a => laws_toIntS a⟩
def a_laws_toIntS : List (Nat × LoopAnn) := [(0, ⟨⟨[(4, false, [.dat (.int .i64)])], [(265216, .keep (.one (.int .i64)) true)]⟩,
    ⟨[], [(265216, .keep (.one (.int .i64)) true)]⟩, none⟩)]
theorem e_laws_toIntS : fnDen ⟨tis, fns_29, [], false⟩ a_laws_toIntS Try.f30 (codeOf Try.f30) [.val false (.one (.sl (.one (.int .i64)))) false] [.val false (.one (.sl (.one (.int .i64)))) (some true)] = fun a => laws_toIntS a := by kernel_rfl
theorem m_laws_toIntS : Meets Try.prog 30 F_laws_toIntS := by
  have h := meets_of (ann := a_laws_toIntS) (ps := [.val false (.one (.sl (.one (.int .i64)))) false]) (rs := [.val false (.one (.sl (.one (.int .i64)))) (some true)]) g_29 mixed Try.func30 (by kernel_rfl) (by kernel_rfl : Try.f30.body = some (codeOf Try.f30))
  rw [e_laws_toIntS] at h
  exact h
noncomputable def fns_30 : List (FuncId × Fn) := (30, F_laws_toIntS) :: fns_29
theorem g_30 : Good Try.prog ⟨tis, fns_30, [], false⟩ := g_29.cons m_laws_toIntS
noncomputable def laws_toVtab (a0 : Vtab) : Option Vtab :=
  (laws_toVrowS a0.1).bind fun t6 =>
  (laws_toIntS a0.2).bind fun t10 =>
  some (t6, t10)
noncomputable def F_laws_toVtab : Fn := ⟨[.val true cVtab false], [.val true cVtab (some true)], fun a => laws_toVtab a⟩
def a_laws_toVtab : List (Nat × LoopAnn) := []
theorem e_laws_toVtab : fnDen ⟨tis, fns_30, [], false⟩ a_laws_toVtab Try.f15 (codeOf Try.f15) [.val true cVtab false] [.val true cVtab (some true)] = fun a => laws_toVtab a := by kernel_rfl
theorem m_laws_toVtab : Meets Try.prog 15 F_laws_toVtab := by
  have h := meets_of (ann := a_laws_toVtab) (ps := [.val true cVtab false]) (rs := [.val true cVtab (some true)]) g_30 mixed Try.func15 (by kernel_rfl) (by kernel_rfl : Try.f15.body = some (codeOf Try.f15))
  rw [e_laws_toVtab] at h
  exact h
noncomputable def fns_15 : List (FuncId × Fn) := (15, F_laws_toVtab) :: fns_30
theorem g_15 : Good Try.prog ⟨tis, fns_15, [], false⟩ := g_30.cons m_laws_toVtab
noncomputable def laws_toBridge (a0 : Bridge) : Option Bridge :=
  (laws_toPtS a0.2.2.1).bind fun t12 =>
  (laws_toFentS a0.2.2.2.1).bind fun t16 =>
  (laws_toVtab (a0.2.2.2.2.1, a0.2.2.2.2.2.1)).bind fun t20 =>
  some (a0.1, a0.2.1, t12, t16, t20.1, t20.2, a0.2.2.2.2.2.2.1, a0.2.2.2.2.2.2.2.1, a0.2.2.2.2.2.2.2.2.1, a0.2.2.2.2.2.2.2.2.2.1, a0.2.2.2.2.2.2.2.2.2.2)
noncomputable def F_laws_toBridge : Fn := ⟨[.val true cBridge false], [.val true cBridge (some true)], fun a => laws_toBridge a⟩
def a_laws_toBridge : List (Nat × LoopAnn) := []
theorem e_laws_toBridge : fnDen ⟨tis, fns_15, [], false⟩ a_laws_toBridge Try.f6 (codeOf Try.f6) [.val true cBridge false] [.val true cBridge (some true)] = fun a => laws_toBridge a := by kernel_rfl
theorem m_laws_toBridge : Meets Try.prog 6 F_laws_toBridge := by
  have h := meets_of (ann := a_laws_toBridge) (ps := [.val true cBridge false]) (rs := [.val true cBridge (some true)]) g_15 mixed Try.func6 (by kernel_rfl) (by kernel_rfl : Try.f6.body = some (codeOf Try.f6))
  rw [e_laws_toBridge] at h
  exact h
noncomputable def fns_6 : List (FuncId × Fn) := (6, F_laws_toBridge) :: fns_15
theorem g_6 : Good Try.prog ⟨tis, fns_6, [], false⟩ := g_15.cons m_laws_toBridge
noncomputable def impl_in (n0 : Int) (low1 : Int) (high2 : Int) : Option Bool :=
  (cond (decide (n0 ≥ low1)) (some (decide (n0 ≤ high2))) (some false)).bind fun t14 =>
  some t14
noncomputable def F_impl_in : Fn := ⟨[.val false (.one (.int .i64)) false, .val false (.one (.int .i64)) false, .val false (.one (.int .i64)) false], [.val false (.one .bool) (some true)], fun a => impl_in a.1 a.2.1 a.2.2⟩
def a_impl_in : List (Nat × LoopAnn) := []
theorem e_impl_in : fnDen ⟨tis, fns_6, [], false⟩ a_impl_in Try.f31 (codeOf Try.f31) [.val false (.one (.int .i64)) false, .val false (.one (.int .i64)) false, .val false (.one (.int .i64)) false] [.val false (.one .bool) (some true)] = fun a => impl_in a.1 a.2.1 a.2.2 := by kernel_rfl
theorem m_impl_in : Meets Try.prog 31 F_impl_in := by
  have h := meets_of (ann := a_impl_in) (ps := [.val false (.one (.int .i64)) false, .val false (.one (.int .i64)) false, .val false (.one (.int .i64)) false]) (rs := [.val false (.one .bool) (some true)]) g_6 mixed Try.func31 (by kernel_rfl) (by kernel_rfl : Try.f31.body = some (codeOf Try.f31))
  rw [e_impl_in] at h
  exact h
noncomputable def fns_31 : List (FuncId × Fn) := (31, F_impl_in) :: fns_6
theorem g_31 : Good Try.prog ⟨tis, fns_31, [], false⟩ := g_6.cons m_impl_in
noncomputable def impl_LessVec (a0 : Vec) (b1 : Vec) : Option Bool :=
  cond (a0.1 != b1.1)
    (some (decide (a0.1 < b1.1)))
    (cond (a0.2.1 != b1.2.1)
      (some (decide (a0.2.1 < b1.2.1)))
      (cond (a0.2.2.2.1 != b1.2.2.2.1)
        (let t4 := decide (a0.2.2.2.1 < b1.2.2.2.1)
        some t4)
        (let t4_1 := decide (a0.2.2.2.2 < b1.2.2.2.2)
        some t4_1)))
noncomputable def F_impl_LessVec : Fn := ⟨[.val true cVec false, .val true cVec false], [.val false (.one .bool) (some true)], fun a => impl_LessVec a.1 a.2⟩
def a_impl_LessVec : List (Nat × LoopAnn) := []
theorem e_impl_LessVec : fnDen ⟨tis, fns_31, [], false⟩ a_impl_LessVec Try.f33 (codeOf Try.f33) [.val true cVec false, .val true cVec false] [.val false (.one .bool) (some true)] = fun a => impl_LessVec a.1 a.2 := by kernel_rfl
theorem m_impl_LessVec : Meets Try.prog 33 F_impl_LessVec := by
  have h := meets_of (ann := a_impl_LessVec) (ps := [.val true cVec false, .val true cVec false]) (rs := [.val false (.one .bool) (some true)]) g_31 mixed Try.func33 (by kernel_rfl) (by kernel_rfl : Try.f33.body = some (codeOf Try.f33))
  rw [e_impl_LessVec] at h
  exact h
noncomputable def fns_33 : List (FuncId × Fn) := (33, F_impl_LessVec) :: fns_31
theorem g_33 : Good Try.prog ⟨tis, fns_33, [], false⟩ := g_31.cons m_impl_LessVec
noncomputable def impl_VecOk (v0 : Vec) : Option Bool :=
  (impl_in v0.1 1 99).bind fun t5 =>
  (cond t5
    ((impl_in v0.2.1 0 100000).bind fun t9 =>
    some t9)
    (some false)).bind fun t10 =>
  (cond t10
    ((impl_in v0.2.2.1 0 10).bind fun t14 =>
    some t14)
    (some false)).bind fun t15 =>
  (cond t15
    ((impl_in v0.2.2.2.1 1 99).bind fun t19 =>
    some t19)
    (some false)).bind fun t20 =>
  (cond t20
    ((impl_in v0.2.2.2.2 0 7).bind fun t24 =>
    some t24)
    (some false)).bind fun t25 =>
  some t25
noncomputable def F_impl_VecOk : Fn := ⟨[.val true cVec false], [.val false (.one .bool) (some true)], fun a => impl_VecOk a⟩
def a_impl_VecOk : List (Nat × LoopAnn) := []
theorem e_impl_VecOk : fnDen ⟨tis, fns_33, [], false⟩ a_impl_VecOk Try.f51 (codeOf Try.f51) [.val true cVec false] [.val false (.one .bool) (some true)] = fun a => impl_VecOk a := by kernel_rfl
theorem m_impl_VecOk : Meets Try.prog 51 F_impl_VecOk := by
  have h := meets_of (ann := a_impl_VecOk) (ps := [.val true cVec false]) (rs := [.val false (.one .bool) (some true)]) g_33 mixed Try.func51 (by kernel_rfl) (by kernel_rfl : Try.f51.body = some (codeOf Try.f51))
  rw [e_impl_VecOk] at h
  exact h
noncomputable def fns_51 : List (FuncId × Fn) := (51, F_impl_VecOk) :: fns_33
theorem g_51 : Good Try.prog ⟨tis, fns_51, [], false⟩ := g_33.cons m_impl_VecOk
noncomputable def impl_StepVec (v0 : Vec) (cost1 : Int) : Option (Vec × Bool) :=
  (impl_VecOk v0).bind fun t8 =>
  (cond (!t8)
    (some true)
    ((impl_in cost1 1 1000).bind fun t12 =>
    some (!t12))).bind fun t14 =>
  cond t14
    (some (v0, false))
    ((impl_VecOk (v0.1, w64 (v0.2.1 + cost1), w64 (v0.2.2.1 + 1), v0.2.2.2.1, v0.2.2.2.2)).bind fun t27 =>
    cond (!t27)
      (some (v0, false))
      (some ((v0.1, w64 (v0.2.1 + cost1), w64 (v0.2.2.1 + 1), v0.2.2.2.1, v0.2.2.2.2), true)))
noncomputable def F_impl_StepVec : Fn := ⟨[.val true cVec false, .val false (.one (.int .i64)) false], [.val true cVec (some true), .val false (.one .bool) (some true)], fun a => impl_StepVec a.1 a.2⟩
def a_impl_StepVec : List (Nat × LoopAnn) := []
theorem e_impl_StepVec : fnDen ⟨tis, fns_51, [], false⟩ a_impl_StepVec Try.f45 (codeOf Try.f45) [.val true cVec false, .val false (.one (.int .i64)) false] [.val true cVec (some true), .val false (.one .bool) (some true)] = fun a => impl_StepVec a.1 a.2 := by kernel_rfl
theorem m_impl_StepVec : Meets Try.prog 45 F_impl_StepVec := by
  have h := meets_of (ann := a_impl_StepVec) (ps := [.val true cVec false, .val false (.one (.int .i64)) false]) (rs := [.val true cVec (some true), .val false (.one .bool) (some true)]) g_51 mixed Try.func45 (by kernel_rfl) (by kernel_rfl : Try.f45.body = some (codeOf Try.f45))
  rw [e_impl_StepVec] at h
  exact h
noncomputable def fns_45 : List (FuncId × Fn) := (45, F_impl_StepVec) :: fns_51
theorem g_45 : Good Try.prog ⟨tis, fns_45, [], false⟩ := g_51.cons m_impl_StepVec
noncomputable def impl_BestVec_l0 (p0 : Int) (i1 : List Pt) (t7 : Int) (t18 : Int) (b0 : Int) (b1 : Int) (b2 : Int) (b3 : Int) (b4 : Int) (b0_1 : Int) (b1_1 : Int) (b2_1 : Int) (b3_1 : Int) (b4_1 : Int) : Option ((Int × Int × Int × Int × Int × Int × Int × Int × Int × Int × Int × Int) ⊕ (Int × Int × Int × Int × Int × Int × Int × Int × Int × Int × Int)) :=
  cond (decide (t18 < (i1.length : Int)))
    ((at? i1 t18).bind fun x21 =>
    (cond (!x21.1) (some true) (some (!x21.2.2.1))).bind fun t30 =>
    cond t30
      (some (.inl (t7, w64 (t18 + 1), b0, b1, b2, b3, b4, b0_1, b1_1, b2_1, b3_1, b4_1)))
      ((impl_StepVec x21.2.2.2 x21.2.1).bind fun t36 =>
      (cond t36.2 (some (decide (t36.1.1 < p0))) (some false)).bind fun t45 =>
      (cond t45
        ((cond (decide (t7 < 0))
          (some true)
          ((impl_LessVec t36.1 (b0_1, b1_1, b2_1, b3_1, b4_1)).bind fun t52 =>
          some t52)).bind fun t53 =>
        some t53)
        (some false)).bind fun t54 =>
      cond t54
        (some (.inl (t18, w64 (t18 + 1), t36.1.1, t36.1.2.1, t36.1.2.2.1, p0, 0, t36.1.1, t36.1.2.1, t36.1.2.2.1, t36.1.2.2.2.1, t36.1.2.2.2.2)))
        (some (.inl (t7, w64 (t18 + 1), b0, b1, b2, b3, b4, b0_1, b1_1, b2_1, b3_1, b4_1)))))
    (some (.inr (t7, b0, b1, b2, b3, b4, b0_1, b1_1, b2_1, b3_1, b4_1)))
noncomputable def impl_BestVec (p0 : Int) (i1 : List Pt) : Option (Vec × Int) :=
  (loop (fun z => impl_BestVec_l0 p0 i1 z.1 z.2.1 z.2.2.1 z.2.2.2.1 z.2.2.2.2.1 z.2.2.2.2.2.1 z.2.2.2.2.2.2.1 z.2.2.2.2.2.2.2.1 z.2.2.2.2.2.2.2.2.1 z.2.2.2.2.2.2.2.2.2.1 z.2.2.2.2.2.2.2.2.2.2.1 z.2.2.2.2.2.2.2.2.2.2.2) ((-1), 0, p0, 0, 0, p0, 0, 0, 0, 0, 0, 0)).bind fun d =>
  some ((d.2.1, d.2.2.1, d.2.2.2.1, d.2.2.2.2.1, d.2.2.2.2.2.1), d.1)
noncomputable def F_impl_BestVec : Fn := ⟨[.val false (.one (.int .i64)) false, .val false (.one (.sl cPt)) false], [.val true cVec (some true), .val false (.one (.int .i64)) (some true)], fun a => impl_BestVec a.1 a.2⟩
def a_impl_BestVec : List (Nat × LoopAnn) := [(0, ⟨⟨[(7, false, [.dat (.int .i64)]), (18, false, [.dat (.int .i64)]), (27, false, [.undef]), (28, false, [.undef]), (29, false, [.undef]), (41, false, [.undef]), (42, false, [.undef]), (43, false, [.undef]), (44, false, [.undef]), (47, false, [.undef]), (48, false, [.undef]), (49, false, [.undef]), (50, false, [.undef]), (51, false, [.undef]), (52, false, [.undef]), (53, false, [.undef])], [(266240, .box [.dat (.int .i64), .dat (.int .i64), .dat (.int .i64), .dat (.int .i64), .dat (.int .i64)]), (525312, .box [.dat (.int .i64), .dat (.int .i64), .dat (.int .i64), .dat (.int .i64), .dat (.int .i64)])]⟩,
    ⟨[(7, false, [.dat (.int .i64)])], [(266240, .box [.dat (.int .i64), .dat (.int .i64), .dat (.int .i64), .dat (.int .i64), .dat (.int .i64)]), (525312, .box [.dat (.int .i64), .dat (.int .i64), .dat (.int .i64), .dat (.int .i64), .dat (.int .i64)])]⟩, none⟩)]
theorem e_impl_BestVec : fnDen ⟨tis, fns_45, [], false⟩ a_impl_BestVec Try.f32 (codeOf Try.f32) [.val false (.one (.int .i64)) false, .val false (.one (.sl cPt)) false] [.val true cVec (some true), .val false (.one (.int .i64)) (some true)] = fun a => impl_BestVec a.1 a.2 := by kernel_rfl
theorem m_impl_BestVec : Meets Try.prog 32 F_impl_BestVec := by
  have h := meets_of (ann := a_impl_BestVec) (ps := [.val false (.one (.int .i64)) false, .val false (.one (.sl cPt)) false]) (rs := [.val true cVec (some true), .val false (.one (.int .i64)) (some true)]) g_45 mixed Try.func32 (by kernel_rfl) (by kernel_rfl : Try.f32.body = some (codeOf Try.f32))
  rw [e_impl_BestVec] at h
  exact h
noncomputable def fns_32 : List (FuncId × Fn) := (32, F_impl_BestVec) :: fns_45
theorem g_32 : Good Try.prog ⟨tis, fns_32, [], false⟩ := g_45.cons m_impl_BestVec
noncomputable def impl_SayVec (id0 : Int) (l1 : List Pt) (port2 : Int) : Option Vec :=
  (impl_BestVec id0 l1).bind fun t12 =>
  some (t12.1.1, t12.1.2.1, t12.1.2.2.1, t12.1.2.2.2.1, port2)
noncomputable def F_impl_SayVec : Fn := ⟨[.val false (.one (.int .i64)) false, .val false (.one (.sl cPt)) false, .val false (.one (.int .i64)) false], [.val true cVec (some true)], fun a => impl_SayVec a.1 a.2.1 a.2.2⟩
def a_impl_SayVec : List (Nat × LoopAnn) := []
theorem e_impl_SayVec : fnDen ⟨tis, fns_32, [], false⟩ a_impl_SayVec Try.f34 (codeOf Try.f34) [.val false (.one (.int .i64)) false, .val false (.one (.sl cPt)) false, .val false (.one (.int .i64)) false] [.val true cVec (some true)] = fun a => impl_SayVec a.1 a.2.1 a.2.2 := by kernel_rfl
theorem m_impl_SayVec : Meets Try.prog 34 F_impl_SayVec := by
  have h := meets_of (ann := a_impl_SayVec) (ps := [.val false (.one (.int .i64)) false, .val false (.one (.sl cPt)) false, .val false (.one (.int .i64)) false]) (rs := [.val true cVec (some true)]) g_32 mixed Try.func34 (by kernel_rfl) (by kernel_rfl : Try.f34.body = some (codeOf Try.f34))
  rw [e_impl_SayVec] at h
  exact h
noncomputable def fns_34 : List (FuncId × Fn) := (34, F_impl_SayVec) :: fns_32
theorem g_34 : Good Try.prog ⟨tis, fns_34, [], false⟩ := g_32.cons m_impl_SayVec
noncomputable def impl_RoleOf (id0 : Int) (l1 : List Pt) (port2 : Int) : Option Int :=
  (impl_in port2 0 (w64 ((l1.length : Int) - 1))).bind fun t13 =>
  (cond (!t13)
    (some true)
    ((at? l1 port2).bind fun x18 =>
    some (!x18.1))).bind fun t22 =>
  cond t22
    (some 4)
    ((impl_BestVec id0 l1).bind fun t26 =>
    cond (t26.2 == port2)
      (some 1)
      ((at? l1 port2).bind fun x36 =>
      (cond (!x36.2.2.1)
        (some true)
        ((impl_SayVec id0 l1 port2).bind fun t44 =>
        (at? l1 port2).bind fun x47 =>
        (impl_LessVec t44 x47.2.2.2).bind fun t50 =>
        some t50)).bind fun t51 =>
      cond t51 (some 2) (some 3)))
noncomputable def F_impl_RoleOf : Fn := ⟨[.val false (.one (.int .i64)) false, .val false (.one (.sl cPt)) false, .val false (.one (.int .i64)) false], [.val false (.one (.int .i64)) (some true)], fun a => impl_RoleOf a.1 a.2.1 a.2.2⟩
def a_impl_RoleOf : List (Nat × LoopAnn) := []
theorem e_impl_RoleOf : fnDen ⟨tis, fns_34, [], false⟩ a_impl_RoleOf Try.f16 (codeOf Try.f16) [.val false (.one (.int .i64)) false, .val false (.one (.sl cPt)) false, .val false (.one (.int .i64)) false] [.val false (.one (.int .i64)) (some true)] = fun a => impl_RoleOf a.1 a.2.1 a.2.2 := by kernel_rfl
theorem m_impl_RoleOf : Meets Try.prog 16 F_impl_RoleOf := by
  have h := meets_of (ann := a_impl_RoleOf) (ps := [.val false (.one (.int .i64)) false, .val false (.one (.sl cPt)) false, .val false (.one (.int .i64)) false]) (rs := [.val false (.one (.int .i64)) (some true)]) g_34 mixed Try.func16 (by kernel_rfl) (by kernel_rfl : Try.f16.body = some (codeOf Try.f16))
  rw [e_impl_RoleOf] at h
  exact h
noncomputable def fns_16 : List (FuncId × Fn) := (16, F_impl_RoleOf) :: fns_34
theorem g_16 : Good Try.prog ⟨tis, fns_16, [], false⟩ := g_34.cons m_impl_RoleOf
noncomputable def impl_RolesText_l0 (b0 : Bridge) (t8 : Int) (out3 : List (List UInt8)) : Option ((Int × List (List UInt8)) ⊕ (List (List UInt8))) :=
  cond (decide (t8 < (b0.2.2.1.length : Int)))
    ((impl_RoleOf b0.1 b0.2.2.1 t8).bind fun t18 =>
    (ix ([[114, 111, 111, 116], [116, 111, 108, 100], [105, 100, 108, 101], [100, 111, 119, 110]] : List (List UInt8)).length (w64 (t18 - 1))).bind fun j20 =>
    (([[114, 111, 111, 116], [116, 111, 108, 100], [105, 100, 108, 101], [100, 111, 119, 110]] : List (List UInt8))[j20]?).bind fun x21 =>
    (app out3 [x21]).bind fun zs23 =>
    some (.inl (w64 (t8 + 1), zs23)))
    (some (.inr out3))
noncomputable def impl_RolesText (b0 : Bridge) : Option (List UInt8) :=
  (loop (fun z => impl_RolesText_l0 b0 z.1 z.2) (0, [])).bind fun d =>
  (libJoin d [32]).bind fun t26 =>
  some t26
noncomputable def F_impl_RolesText : Fn := ⟨[.val true cBridge false], [.val false (.one .str) (some true)], fun a => impl_RolesText a⟩
def a_impl_RolesText : List (Nat × LoopAnn) := [(0, ⟨⟨[(3, false, [.own 1000000000]), (8, false, [.dat (.int .i64)])], [(1000000000, .root (.one .str) true)]⟩,
    ⟨[(3, false, [.own 1000000300])], [(1000000300, .root (.one .str) true)]⟩, none⟩)]
theorem e_impl_RolesText : fnDen ⟨tis, fns_16, [], false⟩ a_impl_RolesText Try.f7 (codeOf Try.f7) [.val true cBridge false] [.val false (.one .str) (some true)] = fun a => impl_RolesText a := by kernel_rfl
theorem m_impl_RolesText : Meets Try.prog 7 F_impl_RolesText := by
  have h := meets_of (ann := a_impl_RolesText) (ps := [.val true cBridge false]) (rs := [.val false (.one .str) (some true)]) g_16 mixed Try.func7 (by kernel_rfl) (by kernel_rfl : Try.f7.body = some (codeOf Try.f7))
  rw [e_impl_RolesText] at h
  exact h
noncomputable def fns_7 : List (FuncId × Fn) := (7, F_impl_RolesText) :: fns_16
theorem g_7 : Good Try.prog ⟨tis, fns_7, [], false⟩ := g_16.cons m_impl_RolesText
noncomputable def laws_eqVec (a0 : Vec) (b1 : Vec) : Option Bool :=
  cond (a0.1 != b1.1)
    (some false)
    (cond (a0.2.1 != b1.2.1)
      (some false)
      (cond (a0.2.2.1 != b1.2.2.1)
        (some false)
        (cond (a0.2.2.2.1 != b1.2.2.2.1)
          (some false)
          (cond (a0.2.2.2.2 != b1.2.2.2.2) (some false) (some true)))))
noncomputable def F_laws_eqVec : Fn := ⟨[.val true cVec false, .val true cVec false], [.val false (.one .bool) (some true)], fun a => laws_eqVec a.1 a.2⟩
def a_laws_eqVec : List (Nat × LoopAnn) := []
theorem e_laws_eqVec : fnDen ⟨tis, fns_7, [], false⟩ a_laws_eqVec Try.f48 (codeOf Try.f48) [.val true cVec false, .val true cVec false] [.val false (.one .bool) (some true)] = fun a => laws_eqVec a.1 a.2 := by kernel_rfl
theorem m_laws_eqVec : Meets Try.prog 48 F_laws_eqVec := by
  have h := meets_of (ann := a_laws_eqVec) (ps := [.val true cVec false, .val true cVec false]) (rs := [.val false (.one .bool) (some true)]) g_7 mixed Try.func48 (by kernel_rfl) (by kernel_rfl : Try.f48.body = some (codeOf Try.f48))
  rw [e_laws_eqVec] at h
  exact h
noncomputable def fns_48 : List (FuncId × Fn) := (48, F_laws_eqVec) :: fns_7
theorem g_48 : Good Try.prog ⟨tis, fns_48, [], false⟩ := g_7.cons m_laws_eqVec
noncomputable def laws_eqPt (a0 : Pt) (b1 : Pt) : Option Bool :=
  cond (!(a0.1 == b1.1))
    (some false)
    (cond (a0.2.1 != b1.2.1)
      (some false)
      (cond (!(a0.2.2.1 == b1.2.2.1))
        (some false)
        ((laws_eqVec a0.2.2.2 b1.2.2.2).bind fun t24 =>
        cond (!t24) (some false) (some true))))
noncomputable def F_laws_eqPt : Fn := ⟨[.val true cPt false, .val true cPt false], [.val false (.one .bool) (some true)], fun a => laws_eqPt a.1 a.2⟩
def a_laws_eqPt : List (Nat × LoopAnn) := []
theorem e_laws_eqPt : fnDen ⟨tis, fns_48, [], false⟩ a_laws_eqPt Try.f38 (codeOf Try.f38) [.val true cPt false, .val true cPt false] [.val false (.one .bool) (some true)] = fun a => laws_eqPt a.1 a.2 := by kernel_rfl
theorem m_laws_eqPt : Meets Try.prog 38 F_laws_eqPt := by
  have h := meets_of (ann := a_laws_eqPt) (ps := [.val true cPt false, .val true cPt false]) (rs := [.val false (.one .bool) (some true)]) g_48 mixed Try.func38 (by kernel_rfl) (by kernel_rfl : Try.f38.body = some (codeOf Try.f38))
  rw [e_laws_eqPt] at h
  exact h
noncomputable def fns_38 : List (FuncId × Fn) := (38, F_laws_eqPt) :: fns_48
theorem g_38 : Good Try.prog ⟨tis, fns_38, [], false⟩ := g_48.cons m_laws_eqPt
noncomputable def laws_eqPtS_l0 (a0 : List Pt) (b1 : List Pt) (i5 : Int) : Option (Int ⊕ (Unit ⊕ Bool)) :=
  cond (decide (i5 < (a0.length : Int)))
    ((at? a0 i5).bind fun x19 =>
    (at? b1 i5).bind fun x23 =>
    (laws_eqPt x19 x23).bind fun t25 =>
    cond (!t25) (some (.inr (.inr false))) (some (.inl (w64 (i5 + 1)))))
    (some (.inr (.inl ())))
noncomputable def laws_eqPtS (a0 : List Pt) (b1 : List Pt) : Option Bool :=
  cond ((a0.length : Int) != (b1.length : Int))
    (some false)
    ((loop (fun z => laws_eqPtS_l0 a0 b1 z) 0).bind (Sum.elim (fun d =>
      some true) (fun r => some r)))
noncomputable def F_laws_eqPtS : Fn := ⟨[.val false (.one (.sl cPt)) false, .val false (.one (.sl cPt)) false], [.val false (.one .bool) (some true)], fun a => laws_eqPtS a.1 a.2⟩
def a_laws_eqPtS : List (Nat × LoopAnn) := [(0, ⟨⟨[(5, false, [.dat (.int .i64)])], []⟩,
    ⟨[], []⟩, some ⟨[(4, false, [.dat .bool])], []⟩⟩)]
theorem e_laws_eqPtS : fnDen ⟨tis, fns_38, [], false⟩ a_laws_eqPtS Try.f18 (codeOf Try.f18) [.val false (.one (.sl cPt)) false, .val false (.one (.sl cPt)) false] [.val false (.one .bool) (some true)] = fun a => laws_eqPtS a.1 a.2 := by kernel_rfl
theorem m_laws_eqPtS : Meets Try.prog 18 F_laws_eqPtS := by
  have h := meets_of (ann := a_laws_eqPtS) (ps := [.val false (.one (.sl cPt)) false, .val false (.one (.sl cPt)) false]) (rs := [.val false (.one .bool) (some true)]) g_38 mixed Try.func18 (by kernel_rfl) (by kernel_rfl : Try.f18.body = some (codeOf Try.f18))
  rw [e_laws_eqPtS] at h
  exact h
noncomputable def fns_18 : List (FuncId × Fn) := (18, F_laws_eqPtS) :: fns_38
theorem g_18 : Good Try.prog ⟨tis, fns_18, [], false⟩ := g_38.cons m_laws_eqPtS
noncomputable def laws_eqFent (a0 : Fent) (b1 : Fent) : Option Bool :=
  cond (a0.1 != b1.1)
    (some false)
    (cond (a0.2.1 != b1.2.1)
      (some false)
      (cond (a0.2.2.1 != b1.2.2.1)
        (some false)
        (cond (a0.2.2.2.1 != b1.2.2.2.1)
          (some false)
          (cond (!(a0.2.2.2.2 == b1.2.2.2.2)) (some false) (some true)))))
noncomputable def F_laws_eqFent : Fn := ⟨[.val true cFent false, .val true cFent false], [.val false (.one .bool) (some true)], fun a => laws_eqFent a.1 a.2⟩
def a_laws_eqFent : List (Nat × LoopAnn) := []
theorem e_laws_eqFent : fnDen ⟨tis, fns_18, [], false⟩ a_laws_eqFent Try.f39 (codeOf Try.f39) [.val true cFent false, .val true cFent false] [.val false (.one .bool) (some true)] = fun a => laws_eqFent a.1 a.2 := by kernel_rfl
theorem m_laws_eqFent : Meets Try.prog 39 F_laws_eqFent := by
  have h := meets_of (ann := a_laws_eqFent) (ps := [.val true cFent false, .val true cFent false]) (rs := [.val false (.one .bool) (some true)]) g_18 mixed Try.func39 (by kernel_rfl) (by kernel_rfl : Try.f39.body = some (codeOf Try.f39))
  rw [e_laws_eqFent] at h
  exact h
noncomputable def fns_39 : List (FuncId × Fn) := (39, F_laws_eqFent) :: fns_18
theorem g_39 : Good Try.prog ⟨tis, fns_39, [], false⟩ := g_18.cons m_laws_eqFent
noncomputable def laws_eqFentS_l0 (a0 : List Fent) (b1 : List Fent) (i5 : Int) : Option (Int ⊕ (Unit ⊕ Bool)) :=
  cond (decide (i5 < (a0.length : Int)))
    ((at? a0 i5).bind fun x19 =>
    (at? b1 i5).bind fun x23 =>
    (laws_eqFent x19 x23).bind fun t25 =>
    cond (!t25) (some (.inr (.inr false))) (some (.inl (w64 (i5 + 1)))))
    (some (.inr (.inl ())))
noncomputable def laws_eqFentS (a0 : List Fent) (b1 : List Fent) : Option Bool :=
  cond ((a0.length : Int) != (b1.length : Int))
    (some false)
    ((loop (fun z => laws_eqFentS_l0 a0 b1 z) 0).bind (Sum.elim (fun d =>
      some true) (fun r => some r)))
noncomputable def F_laws_eqFentS : Fn := ⟨[.val false (.one (.sl cFent)) false, .val false (.one (.sl cFent)) false], [.val false (.one .bool) (some true)], fun a => laws_eqFentS a.1 a.2⟩
def a_laws_eqFentS : List (Nat × LoopAnn) := [(0, ⟨⟨[(5, false, [.dat (.int .i64)])], []⟩,
    ⟨[], []⟩, some ⟨[(4, false, [.dat .bool])], []⟩⟩)]
theorem e_laws_eqFentS : fnDen ⟨tis, fns_39, [], false⟩ a_laws_eqFentS Try.f19 (codeOf Try.f19) [.val false (.one (.sl cFent)) false, .val false (.one (.sl cFent)) false] [.val false (.one .bool) (some true)] = fun a => laws_eqFentS a.1 a.2 := by kernel_rfl
theorem m_laws_eqFentS : Meets Try.prog 19 F_laws_eqFentS := by
  have h := meets_of (ann := a_laws_eqFentS) (ps := [.val false (.one (.sl cFent)) false, .val false (.one (.sl cFent)) false]) (rs := [.val false (.one .bool) (some true)]) g_39 mixed Try.func19 (by kernel_rfl) (by kernel_rfl : Try.f19.body = some (codeOf Try.f19))
  rw [e_laws_eqFentS] at h
  exact h
noncomputable def fns_19 : List (FuncId × Fn) := (19, F_laws_eqFentS) :: fns_39
theorem g_19 : Good Try.prog ⟨tis, fns_19, [], false⟩ := g_39.cons m_laws_eqFentS
noncomputable def laws_eqVrow (a0 : Vrow) (b1 : Vrow) : Option Bool :=
  cond (a0.1 != b1.1)
    (some false)
    (cond (a0.2.1 != b1.2.1) (some false) (cond (a0.2.2 != b1.2.2) (some false) (some true)))
noncomputable def F_laws_eqVrow : Fn := ⟨[.val true cVrow false, .val true cVrow false], [.val false (.one .bool) (some true)], fun a => laws_eqVrow a.1 a.2⟩
def a_laws_eqVrow : List (Nat × LoopAnn) := []
theorem e_laws_eqVrow : fnDen ⟨tis, fns_19, [], false⟩ a_laws_eqVrow Try.f49 (codeOf Try.f49) [.val true cVrow false, .val true cVrow false] [.val false (.one .bool) (some true)] = fun a => laws_eqVrow a.1 a.2 := by kernel_rfl
theorem m_laws_eqVrow : Meets Try.prog 49 F_laws_eqVrow := by
  have h := meets_of (ann := a_laws_eqVrow) (ps := [.val true cVrow false, .val true cVrow false]) (rs := [.val false (.one .bool) (some true)]) g_19 mixed Try.func49 (by kernel_rfl) (by kernel_rfl : Try.f49.body = some (codeOf Try.f49))
  rw [e_laws_eqVrow] at h
  exact h
noncomputable def fns_49 : List (FuncId × Fn) := (49, F_laws_eqVrow) :: fns_19
theorem g_49 : Good Try.prog ⟨tis, fns_49, [], false⟩ := g_19.cons m_laws_eqVrow
noncomputable def laws_eqVrowS_l0 (a0 : List Vrow) (b1 : List Vrow) (i5 : Int) : Option (Int ⊕ (Unit ⊕ Bool)) :=
  cond (decide (i5 < (a0.length : Int)))
    ((at? a0 i5).bind fun x19 =>
    (at? b1 i5).bind fun x23 =>
    (laws_eqVrow x19 x23).bind fun t25 =>
    cond (!t25) (some (.inr (.inr false))) (some (.inl (w64 (i5 + 1)))))
    (some (.inr (.inl ())))
noncomputable def laws_eqVrowS (a0 : List Vrow) (b1 : List Vrow) : Option Bool :=
  cond ((a0.length : Int) != (b1.length : Int))
    (some false)
    ((loop (fun z => laws_eqVrowS_l0 a0 b1 z) 0).bind (Sum.elim (fun d =>
      some true) (fun r => some r)))
noncomputable def F_laws_eqVrowS : Fn := ⟨[.val false (.one (.sl cVrow)) false, .val false (.one (.sl cVrow)) false], [.val false (.one .bool) (some true)], fun a => laws_eqVrowS a.1 a.2⟩
def a_laws_eqVrowS : List (Nat × LoopAnn) := [(0, ⟨⟨[(5, false, [.dat (.int .i64)])], []⟩,
    ⟨[], []⟩, some ⟨[(4, false, [.dat .bool])], []⟩⟩)]
theorem e_laws_eqVrowS : fnDen ⟨tis, fns_49, [], false⟩ a_laws_eqVrowS Try.f40 (codeOf Try.f40) [.val false (.one (.sl cVrow)) false, .val false (.one (.sl cVrow)) false] [.val false (.one .bool) (some true)] = fun a => laws_eqVrowS a.1 a.2 := by kernel_rfl
theorem m_laws_eqVrowS : Meets Try.prog 40 F_laws_eqVrowS := by
  have h := meets_of (ann := a_laws_eqVrowS) (ps := [.val false (.one (.sl cVrow)) false, .val false (.one (.sl cVrow)) false]) (rs := [.val false (.one .bool) (some true)]) g_49 mixed Try.func40 (by kernel_rfl) (by kernel_rfl : Try.f40.body = some (codeOf Try.f40))
  rw [e_laws_eqVrowS] at h
  exact h
noncomputable def fns_40 : List (FuncId × Fn) := (40, F_laws_eqVrowS) :: fns_49
theorem g_40 : Good Try.prog ⟨tis, fns_40, [], false⟩ := g_49.cons m_laws_eqVrowS
noncomputable def laws_eqIntS_l0 (a0 : List Int) (b1 : List Int) (i5 : Int) : Option (Int ⊕ (Unit ⊕ Bool)) :=
  cond (decide (i5 < (a0.length : Int)))
    ((at? a0 i5).bind fun x19 =>
    (at? b1 i5).bind fun x23 =>
    cond (x19 != x23) (some (.inr (.inr false))) (some (.inl (w64 (i5 + 1)))))
    (some (.inr (.inl ())))
noncomputable def laws_eqIntS (a0 : List Int) (b1 : List Int) : Option Bool :=
  cond ((a0.length : Int) != (b1.length : Int))
    (some false)
    ((loop (fun z => laws_eqIntS_l0 a0 b1 z) 0).bind (Sum.elim (fun d =>
      some true) (fun r => some r)))
noncomputable def F_laws_eqIntS : Fn := ⟨[.val false (.one (.sl (.one (.int .i64)))) false, .val false (.one (.sl (.one (.int .i64)))) false], [.val false (.one .bool) (some true)], fun a => laws_eqIntS a.1 a.2⟩
def a_laws_eqIntS : List (Nat × LoopAnn) := [(0, ⟨⟨[(5, false, [.dat (.int .i64)])], []⟩,
    ⟨[], []⟩, some ⟨[(4, false, [.dat .bool])], []⟩⟩)]
theorem e_laws_eqIntS : fnDen ⟨tis, fns_40, [], false⟩ a_laws_eqIntS Try.f41 (codeOf Try.f41) [.val false (.one (.sl (.one (.int .i64)))) false, .val false (.one (.sl (.one (.int .i64)))) false] [.val false (.one .bool) (some true)] = fun a => laws_eqIntS a.1 a.2 := by kernel_rfl
theorem m_laws_eqIntS : Meets Try.prog 41 F_laws_eqIntS := by
  have h := meets_of (ann := a_laws_eqIntS) (ps := [.val false (.one (.sl (.one (.int .i64)))) false, .val false (.one (.sl (.one (.int .i64)))) false]) (rs := [.val false (.one .bool) (some true)]) g_40 mixed Try.func41 (by kernel_rfl) (by kernel_rfl : Try.f41.body = some (codeOf Try.f41))
  rw [e_laws_eqIntS] at h
  exact h
noncomputable def fns_41 : List (FuncId × Fn) := (41, F_laws_eqIntS) :: fns_40
theorem g_41 : Good Try.prog ⟨tis, fns_41, [], false⟩ := g_40.cons m_laws_eqIntS
noncomputable def laws_eqVtab (a0 : Vtab) (b1 : Vtab) : Option Bool :=
  (laws_eqVrowS a0.1 b1.1).bind fun t9 =>
  cond (!t9)
    (some false)
    ((laws_eqIntS a0.2 b1.2).bind fun t15 =>
    cond (!t15) (some false) (some true))
noncomputable def F_laws_eqVtab : Fn := ⟨[.val true cVtab false, .val true cVtab false], [.val false (.one .bool) (some true)], fun a => laws_eqVtab a.1 a.2⟩
def a_laws_eqVtab : List (Nat × LoopAnn) := []
theorem e_laws_eqVtab : fnDen ⟨tis, fns_41, [], false⟩ a_laws_eqVtab Try.f20 (codeOf Try.f20) [.val true cVtab false, .val true cVtab false] [.val false (.one .bool) (some true)] = fun a => laws_eqVtab a.1 a.2 := by kernel_rfl
theorem m_laws_eqVtab : Meets Try.prog 20 F_laws_eqVtab := by
  have h := meets_of (ann := a_laws_eqVtab) (ps := [.val true cVtab false, .val true cVtab false]) (rs := [.val false (.one .bool) (some true)]) g_41 mixed Try.func20 (by kernel_rfl) (by kernel_rfl : Try.f20.body = some (codeOf Try.f20))
  rw [e_laws_eqVtab] at h
  exact h
noncomputable def fns_20 : List (FuncId × Fn) := (20, F_laws_eqVtab) :: fns_41
theorem g_20 : Good Try.prog ⟨tis, fns_20, [], false⟩ := g_41.cons m_laws_eqVtab
noncomputable def laws_eqBridge (a0 : Bridge) (b1 : Bridge) : Option Bool :=
  cond (a0.1 != b1.1)
    (some false)
    (cond (!(a0.2.1 == b1.2.1))
      (some false)
      ((laws_eqPtS a0.2.2.1 b1.2.2.1).bind fun t19 =>
      cond (!t19)
        (some false)
        ((laws_eqFentS a0.2.2.2.1 b1.2.2.2.1).bind fun t25 =>
        cond (!t25)
          (some false)
          ((laws_eqVtab (a0.2.2.2.2.1, a0.2.2.2.2.2.1) (b1.2.2.2.2.1, b1.2.2.2.2.2.1)).bind fun t31 =>
          cond (!t31)
            (some false)
            (cond (a0.2.2.2.2.2.2.1 != b1.2.2.2.2.2.2.1)
              (some false)
              (cond (a0.2.2.2.2.2.2.2.1 != b1.2.2.2.2.2.2.2.1)
                (some false)
                (cond (a0.2.2.2.2.2.2.2.2.1 != b1.2.2.2.2.2.2.2.2.1)
                  (some false)
                  (cond (a0.2.2.2.2.2.2.2.2.2.1 != b1.2.2.2.2.2.2.2.2.2.1)
                    (some false)
                    (cond (a0.2.2.2.2.2.2.2.2.2.2 != b1.2.2.2.2.2.2.2.2.2.2) (some false) (some true))))))))))
noncomputable def F_laws_eqBridge : Fn := ⟨[.val true cBridge false, .val true cBridge false], [.val false (.one .bool) (some true)], fun a => laws_eqBridge a.1 a.2⟩
def a_laws_eqBridge : List (Nat × LoopAnn) := []
theorem e_laws_eqBridge : fnDen ⟨tis, fns_20, [], false⟩ a_laws_eqBridge Try.f8 (codeOf Try.f8) [.val true cBridge false, .val true cBridge false] [.val false (.one .bool) (some true)] = fun a => laws_eqBridge a.1 a.2 := by kernel_rfl
theorem m_laws_eqBridge : Meets Try.prog 8 F_laws_eqBridge := by
  have h := meets_of (ann := a_laws_eqBridge) (ps := [.val true cBridge false, .val true cBridge false]) (rs := [.val false (.one .bool) (some true)]) g_20 mixed Try.func8 (by kernel_rfl) (by kernel_rfl : Try.f8.body = some (codeOf Try.f8))
  rw [e_laws_eqBridge] at h
  exact h
noncomputable def fns_8 : List (FuncId × Fn) := (8, F_laws_eqBridge) :: fns_20
theorem g_8 : Good Try.prog ⟨tis, fns_8, [], false⟩ := g_20.cons m_laws_eqBridge
noncomputable def laws_FnExactRolesText (aB0 : Bridge) : Option Bool :=
  (laws_szBridge aB0 1048576).bind fun t9 =>
  cond (decide (t9 < 0))
    (some true)
    ((laws_toBridge aB0).bind fun t13 =>
    (spec_RolesText t13).bind fun t14 =>
    (laws_toBridge aB0).bind fun t16 =>
    (impl_RolesText t16).bind fun t18 =>
    cond (!(t18 == t14))
      (some false)
      ((laws_toBridge aB0).bind fun t24 =>
      (laws_eqBridge t16 t24).bind fun t25 =>
      cond (!t25) (some false) (some true)))
noncomputable def F_laws_FnExactRolesText : Fn := ⟨[.val true cBridge false], [.val false (.one .bool) (some true)], fun a => laws_FnExactRolesText a⟩
def a_laws_FnExactRolesText : List (Nat × LoopAnn) := []
theorem e_laws_FnExactRolesText : fnDen ⟨tis, fns_8, [], false⟩ a_laws_FnExactRolesText Try.f3 (codeOf Try.f3) [.val true cBridge false] [.val false (.one .bool) (some true)] = fun a => laws_FnExactRolesText a := by kernel_rfl
theorem m_laws_FnExactRolesText : Meets Try.prog 3 F_laws_FnExactRolesText := by
  have h := meets_of (ann := a_laws_FnExactRolesText) (ps := [.val true cBridge false]) (rs := [.val false (.one .bool) (some true)]) g_8 mixed Try.func3 (by kernel_rfl) (by kernel_rfl : Try.f3.body = some (codeOf Try.f3))
  rw [e_laws_FnExactRolesText] at h
  exact h
end Go.V.W

