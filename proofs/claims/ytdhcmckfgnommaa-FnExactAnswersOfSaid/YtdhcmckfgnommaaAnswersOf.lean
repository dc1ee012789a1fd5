/- The law FnExactAnswersOf: part of the proof that for every input it returns true. No condition. -/
import Derived.Test.YtdhcmckfgnommaaV4
import Derived.Test.YtdhcmckfgnommaaProg
import Derived.Test.YtdhcmckfgnommaaChecked
import Derived.KernelRfl
namespace Go.V.W
open Go.Proofs
set_option linter.unusedVariables false
@[reducible] def cVec : Cs := .cons (.int .i64) (.cons (.int .i64) (.cons (.int .i64) (.cons (.int .i64) (.one (.int .i64)))))
@[reducible] def cPt : Cs := .cons .bool (.cons (.int .i64) (.cons .bool (.cons (.int .i64) (.cons (.int .i64) (.cons (.int .i64) (.cons (.int .i64) (.one (.int .i64))))))))
@[reducible] def cFent : Cs := .cons (.int .i64) (.cons (.int .i64) (.cons (.int .i64) (.cons (.int .i64) (.one .bool))))
@[reducible] def cVrow : Cs := .cons (.int .i64) (.cons (.int .i64) (.one (.int .i64)))
@[reducible] def cVtab : Cs := .cons (.sl cVrow) (.one (.sl (.one (.int .i64))))
@[reducible] def cBridge : Cs := .cons (.int .i64) (.cons .str (.cons (.sl cPt) (.cons (.sl cFent) (.cons (.sl cVrow) (.cons (.sl (.one (.int .i64))) (.cons (.int .i64) (.cons (.int .i64) (.cons (.int .i64) (.cons (.int .i64) (.one (.int .i64)))))))))))
@[reducible] def cVal : Cs := .cons (.int .i64) (.cons (.int .i64) (.cons .str (.one (.sl (.one (.int .i64))))))
@[reducible] def cBind : Cs := .cons (.sl (.one (.int .i64))) (.cons (.int .i64) (.cons (.int .i64) (.cons .str (.one (.sl (.one (.int .i64)))))))
@[reducible] def cPdu : Cs := .cons (.int .i64) (.cons (.int .i64) (.cons (.int .i64) (.cons (.int .i64) (.one (.sl cBind)))))
@[reducible] def cJob : Cs := .cons (.int .i64) (.cons (.sl (.one (.int .u8))) (.cons (.int .i64) (.cons (.int .i64) (.cons (.int .i64) (.cons (.int .i64) (.cons (.int .i64) (.cons (.sl cBind) (.cons (.int .i64) (.cons .str (.cons (.sl cPt) (.cons (.sl cFent) (.cons (.sl cVrow) (.cons (.sl (.one (.int .i64))) (.cons (.int .i64) (.cons (.int .i64) (.cons (.int .i64) (.cons (.int .i64) (.cons (.int .i64) (.cons (.int .i64) (.one (.int .i64)))))))))))))))))))))
@[reducible] def cAgent : Cs := .cons (.int .i64) (.cons .str (.cons (.sl cPt) (.cons (.sl cFent) (.cons (.sl cVrow) (.cons (.sl (.one (.int .i64))) (.cons (.int .i64) (.cons (.int .i64) (.cons (.int .i64) (.cons (.int .i64) (.cons (.int .i64) (.cons .str (.cons (.sl cJob) (.cons (.int .i64) (.one (.int .i64)))))))))))))))
@[reducible] def cL4Reader : Cs := .cons (.sl (.one (.int .u8))) (.cons (.int .i64) (.one .bool))
abbrev Vec : Type := Int × Int × Int × Int × Int
abbrev Pt : Type := Bool × Int × Bool × Int × Int × Int × Int × Int
abbrev Fent : Type := Int × Int × Int × Int × Bool
abbrev Vrow : Type := Int × Int × Int
abbrev Vtab : Type := List Vrow × List Int
abbrev Bridge : Type := Int × List UInt8 × List Pt × List Fent × List Vrow × List Int × Int × Int × Int × Int × Int
abbrev Val : Type := Int × Int × List UInt8 × List Int
abbrev Bind : Type := List Int × Int × Int × List UInt8 × List Int
abbrev Pdu : Type := Int × Int × Int × Int × List Bind
abbrev Job : Type := Int × List Int × Int × Int × Int × Int × Int × List Bind × Int × List UInt8 × List Pt × List Fent × List Vrow × List Int × Int × Int × Int × Int × Int × Int × Int
abbrev Agent : Type := Int × List UInt8 × List Pt × List Fent × List Vrow × List Int × Int × Int × Int × Int × Int × List UInt8 × List Job × Int × Int
abbrev L4Reader : Type := List Int × Int × Bool
def tis : List (Nat × TInfo) := [(2, ⟨false, .one (.int .i64), [], 0⟩),
  (3, ⟨false, .one (.int .i64), [], 0⟩),
  (4, ⟨false, .one .bool, [], 0⟩),
  (5, ⟨false, .one (.int .u8), [], 0⟩),
  (6, ⟨false, .one (.int .u8), [], 0⟩),
  (9, ⟨false, .one .str, [], 0⟩),
  (10, ⟨false, .one .str, [], 0⟩),
  (11, ⟨false, .one .str, [], 0⟩),
  (12, ⟨false, .one (.int .u64), [], 0⟩),
  (21, ⟨false, .one (.int .i32), [], 0⟩),
  (22, ⟨false, .one (.sl cPt), [], 109⟩),
  (23, ⟨false, .one (.sl cFent), [], 113⟩),
  (24, ⟨false, .one (.sl cVrow), [], 143⟩),
  (25, ⟨false, .one (.sl (.one (.int .i64))), [], 3⟩),
  (26, ⟨true, cVtab, [(24, 0), (25, 1)], 0⟩),
  (27, ⟨true, cVtab, [(24, 0), (25, 1)], 0⟩),
  (28, ⟨true, cBridge, [(3, 0), (9, 1), (22, 2), (23, 3), (27, 4), (3, 6), (3, 7), (3, 8), (3, 9), (3, 10)], 0⟩),
  (29, ⟨true, cBridge, [(3, 0), (9, 1), (22, 2), (23, 3), (27, 4), (3, 6), (3, 7), (3, 8), (3, 9), (3, 10)], 0⟩),
  (30, ⟨false, .one (.sl cJob), [], 72⟩),
  (31, ⟨true, cAgent, [(29, 0), (9, 11), (30, 12), (3, 13), (3, 14)], 0⟩),
  (32, ⟨true, cAgent, [(29, 0), (9, 11), (30, 12), (3, 13), (3, 14)], 0⟩),
  (35, ⟨false, .one (.sl cPt), [], 105⟩),
  (36, ⟨false, .one (.sl cFent), [], 111⟩),
  (37, ⟨false, .one (.sl cVrow), [], 141⟩),
  (38, ⟨true, cVtab, [(37, 0), (25, 1)], 0⟩),
  (39, ⟨true, cVtab, [(37, 0), (25, 1)], 0⟩),
  (40, ⟨true, cBridge, [(3, 0), (9, 1), (35, 2), (36, 3), (39, 4), (3, 6), (3, 7), (3, 8), (3, 9), (3, 10)], 0⟩),
  (41, ⟨true, cBridge, [(3, 0), (9, 1), (35, 2), (36, 3), (39, 4), (3, 6), (3, 7), (3, 8), (3, 9), (3, 10)], 0⟩),
  (42, ⟨false, .one (.sl cJob), [], 57⟩),
  (43, ⟨true, cAgent, [(41, 0), (9, 11), (42, 12), (3, 13), (3, 14)], 0⟩),
  (44, ⟨true, cAgent, [(41, 0), (9, 11), (42, 12), (3, 13), (3, 14)], 0⟩),
  (50, ⟨false, .one (.sl cBind), [], 98⟩),
  (51, ⟨true, cPdu, [(3, 0), (3, 1), (3, 2), (3, 3), (50, 4)], 0⟩),
  (52, ⟨true, cPdu, [(3, 0), (3, 1), (3, 2), (3, 3), (50, 4)], 0⟩),
  (55, ⟨false, .one (.sl (.one (.int .u8))), [], 5⟩),
  (56, ⟨true, cJob, [(3, 0), (55, 1), (3, 2), (52, 3), (41, 8), (3, 19), (3, 20)], 0⟩),
  (57, ⟨true, cJob, [(3, 0), (55, 1), (3, 2), (52, 3), (41, 8), (3, 19), (3, 20)], 0⟩),
  (68, ⟨false, .one (.sl cBind), [], 153⟩),
  (69, ⟨true, cPdu, [(3, 0), (3, 1), (3, 2), (3, 3), (68, 4)], 0⟩),
  (70, ⟨true, cPdu, [(3, 0), (3, 1), (3, 2), (3, 3), (68, 4)], 0⟩),
  (71, ⟨true, cJob, [(3, 0), (55, 1), (3, 2), (70, 3), (29, 8), (3, 19), (3, 20)], 0⟩),
  (72, ⟨true, cJob, [(3, 0), (55, 1), (3, 2), (70, 3), (29, 8), (3, 19), (3, 20)], 0⟩),
  (76, ⟨true, cL4Reader, [(55, 0), (3, 1), (4, 2)], 0⟩),
  (77, ⟨true, cL4Reader, [(55, 0), (3, 1), (4, 2)], 0⟩),
  (95, ⟨true, cVal, [(3, 0), (3, 1), (9, 2), (25, 3)], 0⟩),
  (96, ⟨true, cVal, [(3, 0), (3, 1), (9, 2), (25, 3)], 0⟩),
  (97, ⟨true, cBind, [(25, 0), (96, 1)], 0⟩),
  (98, ⟨true, cBind, [(25, 0), (96, 1)], 0⟩),
  (102, ⟨true, cVec, [(3, 0), (3, 1), (3, 2), (3, 3), (3, 4)], 0⟩),
  (103, ⟨true, cVec, [(3, 0), (3, 1), (3, 2), (3, 3), (3, 4)], 0⟩),
  (104, ⟨true, cPt, [(4, 0), (3, 1), (4, 2), (103, 3)], 0⟩),
  (105, ⟨true, cPt, [(4, 0), (3, 1), (4, 2), (103, 3)], 0⟩),
  (107, ⟨true, cVec, [(3, 0), (3, 1), (3, 2), (3, 3), (3, 4)], 0⟩),
  (108, ⟨true, cPt, [(4, 0), (3, 1), (4, 2), (107, 3)], 0⟩),
  (109, ⟨true, cPt, [(4, 0), (3, 1), (4, 2), (107, 3)], 0⟩),
  (110, ⟨true, cFent, [(3, 0), (3, 1), (3, 2), (3, 3), (4, 4)], 0⟩),
  (111, ⟨true, cFent, [(3, 0), (3, 1), (3, 2), (3, 3), (4, 4)], 0⟩),
  (113, ⟨true, cFent, [(3, 0), (3, 1), (3, 2), (3, 3), (4, 4)], 0⟩),
  (119, ⟨true, cL4Reader, [(55, 0), (3, 1), (4, 2)], 0⟩),
  (120, ⟨true, cL4Reader, [(55, 0), (3, 1), (4, 2)], 0⟩),
  (131, ⟨false, .one (.int .u64), [], 0⟩),
  (140, ⟨true, cVrow, [(3, 0), (3, 1), (3, 2)], 0⟩),
  (141, ⟨true, cVrow, [(3, 0), (3, 1), (3, 2)], 0⟩),
  (143, ⟨true, cVrow, [(3, 0), (3, 1), (3, 2)], 0⟩),
  (151, ⟨true, cVal, [(3, 0), (3, 1), (9, 2), (25, 3)], 0⟩),
  (152, ⟨true, cBind, [(25, 0), (151, 1)], 0⟩),
  (153, ⟨true, cBind, [(25, 0), (151, 1)], 0⟩),
  (155, ⟨false, .one (.int .i8), [], 0⟩),
  (173, ⟨false, .one (.int .u32), [], 0⟩),
  (174, ⟨false, .one (.int .u8), [], 0⟩),
  (175, ⟨false, .one (.int .u8), [], 0⟩),
  (178, ⟨false, .one (.int .i32), [], 0⟩),
  (179, ⟨false, .one (.int .i32), [], 0⟩)]
theorem tisT : Tis Try.prog tis := Tis.of_all (by kernel_rfl)
theorem tisE : Eqs Try.prog tis := Eqs.of_all (by kernel_rfl)
theorem tisD : Deep Try.prog tis := Deep.of_all (by kernel_rfl)
theorem mixed : Try.prog.follows .mixedOrders = true := by kernel_rfl
def codeOf (fn : Func) : Code := match fn.body with | some c => c | none => .skip
theorem g_0 : Good Try.prog ⟨tis, [], [], false⟩ := ⟨tisT, tisE, (fun f F h => by cases h), (fun f M h => by cases h), (fun h => by cases h)⟩
noncomputable def laws_szPtS (a0 : List Pt) (left1 : Int) : Option Int :=
  let left1_1 := w64 (left1 - (a0.length : Int))
  cond (decide (left1_1 < 0)) (some (-1)) (some left1_1)
noncomputable def F_laws_szPtS : Fn := ⟨[.val false (.one (.sl cPt)) false, .val false (.one (.int .i64)) false], [.val false (.one (.int .i64)) true], fun a => laws_szPtS a.1 a.2⟩
def a_laws_szPtS : List (Nat × LoopAnn) := []
theorem e_laws_szPtS : fnDen ⟨tis, [], [], false⟩ a_laws_szPtS Try.f17 (codeOf Try.f17) [.val false (.one (.sl cPt)) false, .val false (.one (.int .i64)) false] [.val false (.one (.int .i64)) true] = fun a => laws_szPtS a.1 a.2 := by kernel_rfl
theorem m_laws_szPtS : Meets Try.prog 17 F_laws_szPtS := by
  have h := meets_of (ann := a_laws_szPtS) (ps := [.val false (.one (.sl cPt)) false, .val false (.one (.int .i64)) false]) (rs := [.val false (.one (.int .i64)) true]) g_0 mixed Try.func17 (by kernel_rfl) (by kernel_rfl : Try.f17.body = some (codeOf Try.f17))
  rw [e_laws_szPtS] at h
  exact h
noncomputable def fns_17 : List (FuncId × Fn) := (17, F_laws_szPtS) :: []
theorem g_17 : Good Try.prog ⟨tis, fns_17, [], false⟩ := g_0.cons m_laws_szPtS
noncomputable def laws_szFentS (a0 : List Fent) (left1 : Int) : Option Int :=
  let left1_1 := w64 (left1 - (a0.length : Int))
  cond (decide (left1_1 < 0)) (some (-1)) (some left1_1)
noncomputable def F_laws_szFentS : Fn := ⟨[.val false (.one (.sl cFent)) false, .val false (.one (.int .i64)) false], [.val false (.one (.int .i64)) true], fun a => laws_szFentS a.1 a.2⟩
def a_laws_szFentS : List (Nat × LoopAnn) := []
theorem e_laws_szFentS : fnDen ⟨tis, fns_17, [], false⟩ a_laws_szFentS Try.f18 (codeOf Try.f18) [.val false (.one (.sl cFent)) false, .val false (.one (.int .i64)) false] [.val false (.one (.int .i64)) true] = fun a => laws_szFentS a.1 a.2 := by kernel_rfl
theorem m_laws_szFentS : Meets Try.prog 18 F_laws_szFentS := by
  have h := meets_of (ann := a_laws_szFentS) (ps := [.val false (.one (.sl cFent)) false, .val false (.one (.int .i64)) false]) (rs := [.val false (.one (.int .i64)) true]) g_17 mixed Try.func18 (by kernel_rfl) (by kernel_rfl : Try.f18.body = some (codeOf Try.f18))
  rw [e_laws_szFentS] at h
  exact h
noncomputable def fns_18 : List (FuncId × Fn) := (18, F_laws_szFentS) :: fns_17
theorem g_18 : Good Try.prog ⟨tis, fns_18, [], false⟩ := g_17.cons m_laws_szFentS
noncomputable def laws_szVrowS (a0 : List Vrow) (left1 : Int) : Option Int :=
  let left1_1 := w64 (left1 - (a0.length : Int))
  cond (decide (left1_1 < 0)) (some (-1)) (some left1_1)
noncomputable def F_laws_szVrowS : Fn := ⟨[.val false (.one (.sl cVrow)) false, .val false (.one (.int .i64)) false], [.val false (.one (.int .i64)) true], fun a => laws_szVrowS a.1 a.2⟩
def a_laws_szVrowS : List (Nat × LoopAnn) := []
theorem e_laws_szVrowS : fnDen ⟨tis, fns_18, [], false⟩ a_laws_szVrowS Try.f34 (codeOf Try.f34) [.val false (.one (.sl cVrow)) false, .val false (.one (.int .i64)) false] [.val false (.one (.int .i64)) true] = fun a => laws_szVrowS a.1 a.2 := by kernel_rfl
theorem m_laws_szVrowS : Meets Try.prog 34 F_laws_szVrowS := by
  have h := meets_of (ann := a_laws_szVrowS) (ps := [.val false (.one (.sl cVrow)) false, .val false (.one (.int .i64)) false]) (rs := [.val false (.one (.int .i64)) true]) g_18 mixed Try.func34 (by kernel_rfl) (by kernel_rfl : Try.f34.body = some (codeOf Try.f34))
  rw [e_laws_szVrowS] at h
  exact h
noncomputable def fns_34 : List (FuncId × Fn) := (34, F_laws_szVrowS) :: fns_18
theorem g_34 : Good Try.prog ⟨tis, fns_34, [], false⟩ := g_18.cons m_laws_szVrowS
noncomputable def laws_szIntS (a0 : List Int) (left1 : Int) : Option Int :=
  let left1_1 := w64 (left1 - (a0.length : Int))
  cond (decide (left1_1 < 0)) (some (-1)) (some left1_1)
noncomputable def F_laws_szIntS : Fn := ⟨[.val false (.one (.sl (.one (.int .i64)))) false, .val false (.one (.int .i64)) false], [.val false (.one (.int .i64)) true], fun a => laws_szIntS a.1 a.2⟩
def a_laws_szIntS : List (Nat × LoopAnn) := []
theorem e_laws_szIntS : fnDen ⟨tis, fns_34, [], false⟩ a_laws_szIntS Try.f35 (codeOf Try.f35) [.val false (.one (.sl (.one (.int .i64)))) false, .val false (.one (.int .i64)) false] [.val false (.one (.int .i64)) true] = fun a => laws_szIntS a.1 a.2 := by kernel_rfl
theorem m_laws_szIntS : Meets Try.prog 35 F_laws_szIntS := by
  have h := meets_of (ann := a_laws_szIntS) (ps := [.val false (.one (.sl (.one (.int .i64)))) false, .val false (.one (.int .i64)) false]) (rs := [.val false (.one (.int .i64)) true]) g_34 mixed Try.func35 (by kernel_rfl) (by kernel_rfl : Try.f35.body = some (codeOf Try.f35))
  rw [e_laws_szIntS] at h
  exact h
noncomputable def fns_35 : List (FuncId × Fn) := (35, F_laws_szIntS) :: fns_34
theorem g_35 : Good Try.prog ⟨tis, fns_35, [], false⟩ := g_34.cons m_laws_szIntS
noncomputable def laws_szVtab (a0 : Vtab) (left1 : Int) : Option Int :=
  (laws_szVrowS a0.1 left1).bind fun t8 =>
  cond (decide (t8 < 0))
    (some (-1))
    ((laws_szIntS a0.2 t8).bind fun t14 =>
    cond (decide (t14 < 0)) (some (-1)) (some t14))
noncomputable def F_laws_szVtab : Fn := ⟨[.val true cVtab false, .val false (.one (.int .i64)) false], [.val false (.one (.int .i64)) true], fun a => laws_szVtab a.1 a.2⟩
def a_laws_szVtab : List (Nat × LoopAnn) := []
theorem e_laws_szVtab : fnDen ⟨tis, fns_35, [], false⟩ a_laws_szVtab Try.f19 (codeOf Try.f19) [.val true cVtab false, .val false (.one (.int .i64)) false] [.val false (.one (.int .i64)) true] = fun a => laws_szVtab a.1 a.2 := by kernel_rfl
theorem m_laws_szVtab : Meets Try.prog 19 F_laws_szVtab := by
  have h := meets_of (ann := a_laws_szVtab) (ps := [.val true cVtab false, .val false (.one (.int .i64)) false]) (rs := [.val false (.one (.int .i64)) true]) g_35 mixed Try.func19 (by kernel_rfl) (by kernel_rfl : Try.f19.body = some (codeOf Try.f19))
  rw [e_laws_szVtab] at h
  exact h
noncomputable def fns_19 : List (FuncId × Fn) := (19, F_laws_szVtab) :: fns_35
theorem g_19 : Good Try.prog ⟨tis, fns_19, [], false⟩ := g_35.cons m_laws_szVtab
noncomputable def laws_szBridge (a0 : Bridge) (left1 : Int) : Option Int :=
  let left1_1 := w64 (left1 - (a0.2.1.length : Int))
  cond (decide (left1_1 < 0))
    (some (-1))
    ((laws_szPtS a0.2.2.1 left1_1).bind fun t15 =>
    cond (decide (t15 < 0))
      (some (-1))
      ((laws_szFentS a0.2.2.2.1 t15).bind fun t21 =>
      cond (decide (t21 < 0))
        (some (-1))
        ((laws_szVtab (a0.2.2.2.2.1, a0.2.2.2.2.2.1) t21).bind fun t27 =>
        cond (decide (t27 < 0)) (some (-1)) (some t27))))
noncomputable def F_laws_szBridge : Fn := ⟨[.val true cBridge false, .val false (.one (.int .i64)) false], [.val false (.one (.int .i64)) true], fun a => laws_szBridge a.1 a.2⟩
def a_laws_szBridge : List (Nat × LoopAnn) := []
theorem e_laws_szBridge : fnDen ⟨tis, fns_19, [], false⟩ a_laws_szBridge Try.f9 (codeOf Try.f9) [.val true cBridge false, .val false (.one (.int .i64)) false] [.val false (.one (.int .i64)) true] = fun a => laws_szBridge a.1 a.2 := by kernel_rfl
theorem m_laws_szBridge : Meets Try.prog 9 F_laws_szBridge := by
  have h := meets_of (ann := a_laws_szBridge) (ps := [.val true cBridge false, .val false (.one (.int .i64)) false]) (rs := [.val false (.one (.int .i64)) true]) g_19 mixed Try.func9 (by kernel_rfl) (by kernel_rfl : Try.f9.body = some (codeOf Try.f9))
  rw [e_laws_szBridge] at h
  exact h
noncomputable def fns_9 : List (FuncId × Fn) := (9, F_laws_szBridge) :: fns_19
theorem g_9 : Good Try.prog ⟨tis, fns_9, [], false⟩ := g_19.cons m_laws_szBridge
noncomputable def laws_szByteS (a0 : List Int) (left1 : Int) : Option Int :=
  let left1_1 := w64 (left1 - (a0.length : Int))
  cond (decide (left1_1 < 0)) (some (-1)) (some left1_1)
noncomputable def F_laws_szByteS : Fn := ⟨[.val false (.one (.sl (.one (.int .u8)))) false, .val false (.one (.int .i64)) false], [.val false (.one (.int .i64)) true], fun a => laws_szByteS a.1 a.2⟩
def a_laws_szByteS : List (Nat × LoopAnn) := []
theorem e_laws_szByteS : fnDen ⟨tis, fns_9, [], false⟩ a_laws_szByteS Try.f36 (codeOf Try.f36) [.val false (.one (.sl (.one (.int .u8)))) false, .val false (.one (.int .i64)) false] [.val false (.one (.int .i64)) true] = fun a => laws_szByteS a.1 a.2 := by kernel_rfl
theorem m_laws_szByteS : Meets Try.prog 36 F_laws_szByteS := by
  have h := meets_of (ann := a_laws_szByteS) (ps := [.val false (.one (.sl (.one (.int .u8)))) false, .val false (.one (.int .i64)) false]) (rs := [.val false (.one (.int .i64)) true]) g_9 mixed Try.func36 (by kernel_rfl) (by kernel_rfl : Try.f36.body = some (codeOf Try.f36))
  rw [e_laws_szByteS] at h
  exact h
noncomputable def fns_36 : List (FuncId × Fn) := (36, F_laws_szByteS) :: fns_9
theorem g_36 : Good Try.prog ⟨tis, fns_36, [], false⟩ := g_9.cons m_laws_szByteS
noncomputable def laws_szVal (a0 : Val) (left1 : Int) : Option Int :=
  let left1_1 := w64 (left1 - (a0.2.2.1.length : Int))
  cond (decide (left1_1 < 0))
    (some (-1))
    ((laws_szIntS a0.2.2.2 left1_1).bind fun t15 =>
    cond (decide (t15 < 0)) (some (-1)) (some t15))
noncomputable def F_laws_szVal : Fn := ⟨[.val true cVal false, .val false (.one (.int .i64)) false], [.val false (.one (.int .i64)) true], fun a => laws_szVal a.1 a.2⟩
def a_laws_szVal : List (Nat × LoopAnn) := []
theorem e_laws_szVal : fnDen ⟨tis, fns_36, [], false⟩ a_laws_szVal Try.f91 (codeOf Try.f91) [.val true cVal false, .val false (.one (.int .i64)) false] [.val false (.one (.int .i64)) true] = fun a => laws_szVal a.1 a.2 := by kernel_rfl
theorem m_laws_szVal : Meets Try.prog 91 F_laws_szVal := by
  have h := meets_of (ann := a_laws_szVal) (ps := [.val true cVal false, .val false (.one (.int .i64)) false]) (rs := [.val false (.one (.int .i64)) true]) g_36 mixed Try.func91 (by kernel_rfl) (by kernel_rfl : Try.f91.body = some (codeOf Try.f91))
  rw [e_laws_szVal] at h
  exact h
noncomputable def fns_91 : List (FuncId × Fn) := (91, F_laws_szVal) :: fns_36
theorem g_91 : Good Try.prog ⟨tis, fns_91, [], false⟩ := g_36.cons m_laws_szVal
noncomputable def laws_szBind (a0 : Bind) (left1 : Int) : Option Int :=
  (laws_szIntS a0.1 left1).bind fun t8 =>
  cond (decide (t8 < 0))
    (some (-1))
    ((laws_szVal a0.2 t8).bind fun t14 =>
    cond (decide (t14 < 0)) (some (-1)) (some t14))
noncomputable def F_laws_szBind : Fn := ⟨[.val true cBind false, .val false (.one (.int .i64)) false], [.val false (.one (.int .i64)) true], fun a => laws_szBind a.1 a.2⟩
def a_laws_szBind : List (Nat × LoopAnn) := []
theorem e_laws_szBind : fnDen ⟨tis, fns_91, [], false⟩ a_laws_szBind Try.f77 (codeOf Try.f77) [.val true cBind false, .val false (.one (.int .i64)) false] [.val false (.one (.int .i64)) true] = fun a => laws_szBind a.1 a.2 := by kernel_rfl
theorem m_laws_szBind : Meets Try.prog 77 F_laws_szBind := by
  have h := meets_of (ann := a_laws_szBind) (ps := [.val true cBind false, .val false (.one (.int .i64)) false]) (rs := [.val false (.one (.int .i64)) true]) g_91 mixed Try.func77 (by kernel_rfl) (by kernel_rfl : Try.f77.body = some (codeOf Try.f77))
  rw [e_laws_szBind] at h
  exact h
noncomputable def fns_77 : List (FuncId × Fn) := (77, F_laws_szBind) :: fns_91
theorem g_77 : Good Try.prog ⟨tis, fns_77, [], false⟩ := g_91.cons m_laws_szBind
noncomputable def laws_szBindS_l0 (a0 : List Bind) (left1_2 : Int) (i5 : Int) : Option ((Int × Int) ⊕ (Int ⊕ Int)) :=
  cond (decide (i5 < (a0.length : Int)))
    ((at? a0 i5).bind fun x20 =>
    (laws_szBind x20 left1_2).bind fun t23 =>
    cond (decide (t23 < 0)) (some (.inr (.inr (-1)))) (some (.inl (t23, w64 (i5 + 1)))))
    (some (.inr (.inl left1_2)))
noncomputable def laws_szBindS (a0 : List Bind) (left1 : Int) : Option Int :=
  let left1_1 := w64 (left1 - (a0.length : Int))
  cond (decide (left1_1 < 0))
    (some (-1))
    ((loop (fun z => laws_szBindS_l0 a0 z.1 z.2) (left1_1, 0)).bind (Sum.elim (fun d =>
      some d) (fun r => some r)))
noncomputable def F_laws_szBindS : Fn := ⟨[.val false (.one (.sl cBind)) false, .val false (.one (.int .i64)) false], [.val false (.one (.int .i64)) true], fun a => laws_szBindS a.1 a.2⟩
def a_laws_szBindS : List (Nat × LoopAnn) := [(0, ⟨⟨[(1, false, [.dat (.int .i64)]), (5, false, [.dat (.int .i64)])], []⟩,
    ⟨[(1, false, [.dat (.int .i64)])], []⟩, some ⟨[(4, false, [.dat (.int .i64)])], []⟩⟩)]
theorem e_laws_szBindS : fnDen ⟨tis, fns_77, [], false⟩ a_laws_szBindS Try.f57 (codeOf Try.f57) [.val false (.one (.sl cBind)) false, .val false (.one (.int .i64)) false] [.val false (.one (.int .i64)) true] = fun a => laws_szBindS a.1 a.2 := by kernel_rfl
theorem m_laws_szBindS : Meets Try.prog 57 F_laws_szBindS := by
  have h := meets_of (ann := a_laws_szBindS) (ps := [.val false (.one (.sl cBind)) false, .val false (.one (.int .i64)) false]) (rs := [.val false (.one (.int .i64)) true]) g_77 mixed Try.func57 (by kernel_rfl) (by kernel_rfl : Try.f57.body = some (codeOf Try.f57))
  rw [e_laws_szBindS] at h
  exact h
noncomputable def fns_57 : List (FuncId × Fn) := (57, F_laws_szBindS) :: fns_77
theorem g_57 : Good Try.prog ⟨tis, fns_57, [], false⟩ := g_77.cons m_laws_szBindS
noncomputable def laws_szPdu (a0 : Pdu) (left1 : Int) : Option Int :=
  (laws_szBindS a0.2.2.2.2 left1).bind fun t8 =>
  cond (decide (t8 < 0)) (some (-1)) (some t8)
noncomputable def F_laws_szPdu : Fn := ⟨[.val true cPdu false, .val false (.one (.int .i64)) false], [.val false (.one (.int .i64)) true], fun a => laws_szPdu a.1 a.2⟩
def a_laws_szPdu : List (Nat × LoopAnn) := []
theorem e_laws_szPdu : fnDen ⟨tis, fns_57, [], false⟩ a_laws_szPdu Try.f37 (codeOf Try.f37) [.val true cPdu false, .val false (.one (.int .i64)) false] [.val false (.one (.int .i64)) true] = fun a => laws_szPdu a.1 a.2 := by kernel_rfl
theorem m_laws_szPdu : Meets Try.prog 37 F_laws_szPdu := by
  have h := meets_of (ann := a_laws_szPdu) (ps := [.val true cPdu false, .val false (.one (.int .i64)) false]) (rs := [.val false (.one (.int .i64)) true]) g_57 mixed Try.func37 (by kernel_rfl) (by kernel_rfl : Try.f37.body = some (codeOf Try.f37))
  rw [e_laws_szPdu] at h
  exact h
noncomputable def fns_37 : List (FuncId × Fn) := (37, F_laws_szPdu) :: fns_57
theorem g_37 : Good Try.prog ⟨tis, fns_37, [], false⟩ := g_57.cons m_laws_szPdu
noncomputable def laws_szJob (a0 : Job) (left1 : Int) : Option Int :=
  (laws_szByteS a0.2.1 left1).bind fun t8 =>
  cond (decide (t8 < 0))
    (some (-1))
    ((laws_szPdu (a0.2.2.2.1, a0.2.2.2.2.1, a0.2.2.2.2.2.1, a0.2.2.2.2.2.2.1, a0.2.2.2.2.2.2.2.1) t8).bind fun t14 =>
    cond (decide (t14 < 0))
      (some (-1))
      ((laws_szBridge (a0.2.2.2.2.2.2.2.2.1, a0.2.2.2.2.2.2.2.2.2.1, a0.2.2.2.2.2.2.2.2.2.2.1, a0.2.2.2.2.2.2.2.2.2.2.2.1, a0.2.2.2.2.2.2.2.2.2.2.2.2.1, a0.2.2.2.2.2.2.2.2.2.2.2.2.2.1, a0.2.2.2.2.2.2.2.2.2.2.2.2.2.2.1, a0.2.2.2.2.2.2.2.2.2.2.2.2.2.2.2.1, a0.2.2.2.2.2.2.2.2.2.2.2.2.2.2.2.2.1, a0.2.2.2.2.2.2.2.2.2.2.2.2.2.2.2.2.2.1, a0.2.2.2.2.2.2.2.2.2.2.2.2.2.2.2.2.2.2.1) t14).bind fun t20 =>
      cond (decide (t20 < 0)) (some (-1)) (some t20)))
noncomputable def F_laws_szJob : Fn := ⟨[.val true cJob false, .val false (.one (.int .i64)) false], [.val false (.one (.int .i64)) true], fun a => laws_szJob a.1 a.2⟩
def a_laws_szJob : List (Nat × LoopAnn) := []
theorem e_laws_szJob : fnDen ⟨tis, fns_37, [], false⟩ a_laws_szJob Try.f20 (codeOf Try.f20) [.val true cJob false, .val false (.one (.int .i64)) false] [.val false (.one (.int .i64)) true] = fun a => laws_szJob a.1 a.2 := by kernel_rfl
theorem m_laws_szJob : Meets Try.prog 20 F_laws_szJob := by
  have h := meets_of (ann := a_laws_szJob) (ps := [.val true cJob false, .val false (.one (.int .i64)) false]) (rs := [.val false (.one (.int .i64)) true]) g_37 mixed Try.func20 (by kernel_rfl) (by kernel_rfl : Try.f20.body = some (codeOf Try.f20))
  rw [e_laws_szJob] at h
  exact h
noncomputable def fns_20 : List (FuncId × Fn) := (20, F_laws_szJob) :: fns_37
theorem g_20 : Good Try.prog ⟨tis, fns_20, [], false⟩ := g_37.cons m_laws_szJob
noncomputable def laws_szJobS_l0 (a0 : List Job) (left1_2 : Int) (i5 : Int) : Option ((Int × Int) ⊕ (Int ⊕ Int)) :=
  cond (decide (i5 < (a0.length : Int)))
    ((at? a0 i5).bind fun x20 =>
    (laws_szJob x20 left1_2).bind fun t23 =>
    cond (decide (t23 < 0)) (some (.inr (.inr (-1)))) (some (.inl (t23, w64 (i5 + 1)))))
    (some (.inr (.inl left1_2)))
noncomputable def laws_szJobS (a0 : List Job) (left1 : Int) : Option Int :=
  let left1_1 := w64 (left1 - (a0.length : Int))
  cond (decide (left1_1 < 0))
    (some (-1))
    ((loop (fun z => laws_szJobS_l0 a0 z.1 z.2) (left1_1, 0)).bind (Sum.elim (fun d =>
      some d) (fun r => some r)))
noncomputable def F_laws_szJobS : Fn := ⟨[.val false (.one (.sl cJob)) false, .val false (.one (.int .i64)) false], [.val false (.one (.int .i64)) true], fun a => laws_szJobS a.1 a.2⟩
def a_laws_szJobS : List (Nat × LoopAnn) := [(0, ⟨⟨[(1, false, [.dat (.int .i64)]), (5, false, [.dat (.int .i64)])], []⟩,
    ⟨[(1, false, [.dat (.int .i64)])], []⟩, some ⟨[(4, false, [.dat (.int .i64)])], []⟩⟩)]
theorem e_laws_szJobS : fnDen ⟨tis, fns_20, [], false⟩ a_laws_szJobS Try.f10 (codeOf Try.f10) [.val false (.one (.sl cJob)) false, .val false (.one (.int .i64)) false] [.val false (.one (.int .i64)) true] = fun a => laws_szJobS a.1 a.2 := by kernel_rfl
theorem m_laws_szJobS : Meets Try.prog 10 F_laws_szJobS := by
  have h := meets_of (ann := a_laws_szJobS) (ps := [.val false (.one (.sl cJob)) false, .val false (.one (.int .i64)) false]) (rs := [.val false (.one (.int .i64)) true]) g_20 mixed Try.func10 (by kernel_rfl) (by kernel_rfl : Try.f10.body = some (codeOf Try.f10))
  rw [e_laws_szJobS] at h
  exact h
noncomputable def fns_10 : List (FuncId × Fn) := (10, F_laws_szJobS) :: fns_20
theorem g_10 : Good Try.prog ⟨tis, fns_10, [], false⟩ := g_20.cons m_laws_szJobS
noncomputable def laws_szAgent (a0 : Agent) (left1 : Int) : Option Int :=
  (laws_szBridge (a0.1, a0.2.1, a0.2.2.1, a0.2.2.2.1, a0.2.2.2.2.1, a0.2.2.2.2.2.1, a0.2.2.2.2.2.2.1, a0.2.2.2.2.2.2.2.1, a0.2.2.2.2.2.2.2.2.1, a0.2.2.2.2.2.2.2.2.2.1, a0.2.2.2.2.2.2.2.2.2.2.1) left1).bind fun t8 =>
  cond (decide (t8 < 0))
    (some (-1))
    (let left1_1 := w64 (t8 - (a0.2.2.2.2.2.2.2.2.2.2.2.1.length : Int))
    cond (decide (left1_1 < 0))
      (some (-1))
      ((laws_szJobS a0.2.2.2.2.2.2.2.2.2.2.2.2.1 left1_1).bind fun t21 =>
      cond (decide (t21 < 0)) (some (-1)) (some t21)))
noncomputable def F_laws_szAgent : Fn := ⟨[.val true cAgent false, .val false (.one (.int .i64)) false], [.val false (.one (.int .i64)) true], fun a => laws_szAgent a.1 a.2⟩
def a_laws_szAgent : List (Nat × LoopAnn) := []
theorem e_laws_szAgent : fnDen ⟨tis, fns_10, [], false⟩ a_laws_szAgent Try.f4 (codeOf Try.f4) [.val true cAgent false, .val false (.one (.int .i64)) false] [.val false (.one (.int .i64)) true] = fun a => laws_szAgent a.1 a.2 := by kernel_rfl
theorem m_laws_szAgent : Meets Try.prog 4 F_laws_szAgent := by
  have h := meets_of (ann := a_laws_szAgent) (ps := [.val true cAgent false, .val false (.one (.int .i64)) false]) (rs := [.val false (.one (.int .i64)) true]) g_10 mixed Try.func4 (by kernel_rfl) (by kernel_rfl : Try.f4.body = some (codeOf Try.f4))
  rw [e_laws_szAgent] at h
  exact h
noncomputable def fns_4 : List (FuncId × Fn) := (4, F_laws_szAgent) :: fns_10
theorem g_4 : Good Try.prog ⟨tis, fns_4, [], false⟩ := g_10.cons m_laws_szAgent
noncomputable def spec_GetTlv (p0 : List Int) (i1 : Int) : Option (Int × (List Int) × Int × Bool) :=
  (cond (decide (i1 < 0)) (some true) (some (decide (i1 ≥ (p0.length : Int))))).bind fun t17 =>
  (cond t17 (some true) (some (decide ((w64 (i1 + 1)) ≥ (p0.length : Int))))).bind fun t24 =>
  cond t24
    (some (0, ([] : List Int), 0, false))
    ((at? p0 (w64 (i1 + 1))).bind fun x29 =>
    cond (decide ((w64 (x29)) > 127))
      ((cond ((w64 (x29)) != 129) (some true) (some (decide ((w64 (i1 + 2)) ≥ (p0.length : Int))))).bind fun t43 =>
      (cond t43
        (some true)
        ((at? p0 (w64 (i1 + 2))).bind fun x47 =>
        some (decide (x47 < 128)))).bind fun t50 =>
      cond t50
        (some (0, ([] : List Int), 0, false))
        ((at? p0 (w64 (i1 + 2))).bind fun x54 =>
        (cond (decide ((w64 (x54)) > 250))
          (some true)
          (some (decide ((w64 (x54)) > (w64 ((p0.length : Int) - (w64 ((w64 (i1 + 2)) + 1)))))))).bind fun t68 =>
        cond t68
          (some (0, ([] : List Int), 0, false))
          ((at? p0 i1).bind fun x72 =>
          (cut p0 (w64 ((w64 (i1 + 2)) + 1)) (w64 ((w64 ((w64 (i1 + 2)) + 1)) + (w64 (x54))))).bind fun t81 =>
          (app ([] : List Int) t81).bind fun zs82 =>
          let t6 := w64 ((w64 ((w64 (i1 + 2)) + 1)) + (w64 (x54)))
          some (w64 (x72), zs82, t6, true))))
      ((cond (decide ((w64 (x29)) > 250))
        (some true)
        (some (decide ((w64 (x29)) > (w64 ((p0.length : Int) - (w64 (i1 + 2)))))))).bind fun t68_1 =>
      cond t68_1
        (some (0, ([] : List Int), 0, false))
        ((at? p0 i1).bind fun x72_1 =>
        (cut p0 (w64 (i1 + 2)) (w64 ((w64 (i1 + 2)) + (w64 (x29))))).bind fun t81_1 =>
        (app ([] : List Int) t81_1).bind fun zs82_1 =>
        let t6_1 := w64 ((w64 (i1 + 2)) + (w64 (x29)))
        some (w64 (x72_1), zs82_1, t6_1, true))))
noncomputable def F_spec_GetTlv : Fn := ⟨[.val false (.one (.sl (.one (.int .u8)))) false, .val false (.one (.int .i64)) false], [.val false (.one (.int .i64)) true, .val false (.one (.sl (.one (.int .u8)))) true, .val false (.one (.int .i64)) true, .val false (.one .bool) true], fun a => spec_GetTlv a.1 a.2⟩
def a_spec_GetTlv : List (Nat × LoopAnn) := []
theorem e_spec_GetTlv : fnDen ⟨tis, fns_4, [], false⟩ a_spec_GetTlv Try.f21 (codeOf Try.f21) [.val false (.one (.sl (.one (.int .u8)))) false, .val false (.one (.int .i64)) false] [.val false (.one (.int .i64)) true, .val false (.one (.sl (.one (.int .u8)))) true, .val false (.one (.int .i64)) true, .val false (.one .bool) true] = fun a => spec_GetTlv a.1 a.2 := by kernel_rfl
theorem m_spec_GetTlv : Meets Try.prog 21 F_spec_GetTlv := by
  have h := meets_of (ann := a_spec_GetTlv) (ps := [.val false (.one (.sl (.one (.int .u8)))) false, .val false (.one (.int .i64)) false]) (rs := [.val false (.one (.int .i64)) true, .val false (.one (.sl (.one (.int .u8)))) true, .val false (.one (.int .i64)) true, .val false (.one .bool) true]) g_4 mixed Try.func21 (by kernel_rfl) (by kernel_rfl : Try.f21.body = some (codeOf Try.f21))
  rw [e_spec_GetTlv] at h
  exact h
noncomputable def fns_21 : List (FuncId × Fn) := (21, F_spec_GetTlv) :: fns_4
theorem g_21 : Good Try.prog ⟨tis, fns_21, [], false⟩ := g_4.cons m_spec_GetTlv
noncomputable def spec_l4Part (r0 : L4Reader) (tag1 : Int) : Option (L4Reader × List Int) :=
  (spec_GetTlv r0.1 r0.2.1).bind fun t18 =>
  (cond r0.2.2 (some true) (some (!t18.2.2.2))).bind fun t30 =>
  (cond t30 (some true) (some (t18.1 != tag1))).bind fun t35 =>
  cond t35
    (some ((r0.1, r0.2.1, true), ([] : List Int)))
    (some ((r0.1, t18.2.2.1, r0.2.2), t18.2.1))
noncomputable def F_spec_l4Part : Fn := ⟨[.ptr cL4Reader false, .val false (.one (.int .i64)) false], [.val false (.one (.sl (.one (.int .u8)))) true], fun a => spec_l4Part a.1 a.2⟩
def a_spec_l4Part : List (Nat × LoopAnn) := []
theorem e_spec_l4Part : fnDen ⟨tis, fns_21, [], false⟩ a_spec_l4Part Try.f23 (codeOf Try.f23) [.ptr cL4Reader false, .val false (.one (.int .i64)) false] [.val false (.one (.sl (.one (.int .u8)))) true] = fun a => spec_l4Part a.1 a.2 := by kernel_rfl
theorem m_spec_l4Part : Meets Try.prog 23 F_spec_l4Part := by
  have h := meets_of (ann := a_spec_l4Part) (ps := [.ptr cL4Reader false, .val false (.one (.int .i64)) false]) (rs := [.val false (.one (.sl (.one (.int .u8)))) true]) g_21 mixed Try.func23 (by kernel_rfl) (by kernel_rfl : Try.f23.body = some (codeOf Try.f23))
  rw [e_spec_l4Part] at h
  exact h
noncomputable def fns_23 : List (FuncId × Fn) := (23, F_spec_l4Part) :: fns_21
theorem g_23 : Good Try.prog ⟨tis, fns_23, [], false⟩ := g_21.cons m_spec_l4Part
noncomputable def spec_l1In (x0 : Int) (least1 : Int) (most2 : Int) : Option Bool :=
  (cond (decide (x0 ≥ least1)) (some (decide (x0 ≤ most2))) (some false)).bind fun t14 =>
  some t14
noncomputable def F_spec_l1In : Fn := ⟨[.val false (.one (.int .i64)) false, .val false (.one (.int .i64)) false, .val false (.one (.int .i64)) false], [.val false (.one .bool) true], fun a => spec_l1In a.1 a.2.1 a.2.2⟩
def a_spec_l1In : List (Nat × LoopAnn) := []
theorem e_spec_l1In : fnDen ⟨tis, fns_23, [], false⟩ a_spec_l1In Try.f58 (codeOf Try.f58) [.val false (.one (.int .i64)) false, .val false (.one (.int .i64)) false, .val false (.one (.int .i64)) false] [.val false (.one .bool) true] = fun a => spec_l1In a.1 a.2.1 a.2.2 := by kernel_rfl
theorem m_spec_l1In : Meets Try.prog 58 F_spec_l1In := by
  have h := meets_of (ann := a_spec_l1In) (ps := [.val false (.one (.int .i64)) false, .val false (.one (.int .i64)) false, .val false (.one (.int .i64)) false]) (rs := [.val false (.one .bool) true]) g_23 mixed Try.func58 (by kernel_rfl) (by kernel_rfl : Try.f58.body = some (codeOf Try.f58))
  rw [e_spec_l1In] at h
  exact h
noncomputable def fns_58 : List (FuncId × Fn) := (58, F_spec_l1In) :: fns_23
theorem g_58 : Good Try.prog ⟨tis, fns_58, [], false⟩ := g_23.cons m_spec_l1In
noncomputable def spec_l1Clip (n0 : Int) : Option Int :=
  cond (decide (n0 > 2147483647))
    (some 2147483647)
    (cond (decide (n0 < (-2147483648))) (some (-2147483648)) (some n0))
noncomputable def F_spec_l1Clip : Fn := ⟨[.val false (.one (.int .i64)) false], [.val false (.one (.int .i64)) true], fun a => spec_l1Clip a⟩
def a_spec_l1Clip : List (Nat × LoopAnn) := []
theorem e_spec_l1Clip : fnDen ⟨tis, fns_58, [], false⟩ a_spec_l1Clip Try.f65 (codeOf Try.f65) [.val false (.one (.int .i64)) false] [.val false (.one (.int .i64)) true] = fun a => spec_l1Clip a := by kernel_rfl
theorem m_spec_l1Clip : Meets Try.prog 65 F_spec_l1Clip := by
  have h := meets_of (ann := a_spec_l1Clip) (ps := [.val false (.one (.int .i64)) false]) (rs := [.val false (.one (.int .i64)) true]) g_58 mixed Try.func65 (by kernel_rfl) (by kernel_rfl : Try.f65.body = some (codeOf Try.f65))
  rw [e_spec_l1Clip] at h
  exact h
noncomputable def fns_65 : List (FuncId × Fn) := (65, F_spec_l1Clip) :: fns_58
theorem g_65 : Good Try.prog ⟨tis, fns_65, [], false⟩ := g_58.cons m_spec_l1Clip
noncomputable def spec_PutInt_l0 (n0_1 : Int) (out3 : List Int) : Option ((Int × List Int) ⊕ (List Int)) :=
  (cond (decide (n0_1 < (-128))) (some true) (some (decide (n0_1 > 127)))).bind fun t14 =>
  cond t14
    ((app [IntKind.u8.wrap (n0_1.fdiv (2 ^ 8))] out3).bind fun zs21 =>
    some (.inl (n0_1.fdiv (2 ^ 8), zs21)))
    (some (.inr out3))
noncomputable def spec_PutInt (n0 : Int) : Option (List Int) :=
  (spec_l1Clip n0).bind fun t5 =>
  (loop (fun z => spec_PutInt_l0 z.1 z.2) (t5, [IntKind.u8.wrap (t5)])).bind fun d =>
  some d
noncomputable def F_spec_PutInt : Fn := ⟨[.val false (.one (.int .i64)) false], [.val false (.one (.sl (.one (.int .u8)))) true], fun a => spec_PutInt a⟩
def a_spec_PutInt : List (Nat × LoopAnn) := [(0, ⟨⟨[(0, false, [.dat (.int .i64)]), (3, false, [.own 1000000000]), (12, false, [.undef]), (13, false, [.undef])], [(1000000000, .root (.one (.int .u8)) true)]⟩,
    ⟨[(3, false, [.own 1000000300])], [(1000000300, .root (.one (.int .u8)) true)]⟩, none⟩)]
theorem e_spec_PutInt : fnDen ⟨tis, fns_65, [], false⟩ a_spec_PutInt Try.f59 (codeOf Try.f59) [.val false (.one (.int .i64)) false] [.val false (.one (.sl (.one (.int .u8)))) true] = fun a => spec_PutInt a := by kernel_rfl
theorem m_spec_PutInt : Meets Try.prog 59 F_spec_PutInt := by
  have h := meets_of (ann := a_spec_PutInt) (ps := [.val false (.one (.int .i64)) false]) (rs := [.val false (.one (.sl (.one (.int .u8)))) true]) g_65 mixed Try.func59 (by kernel_rfl) (by kernel_rfl : Try.f59.body = some (codeOf Try.f59))
  rw [e_spec_PutInt] at h
  exact h
noncomputable def fns_59 : List (FuncId × Fn) := (59, F_spec_PutInt) :: fns_65
theorem g_59 : Good Try.prog ⟨tis, fns_59, [], false⟩ := g_65.cons m_spec_PutInt
noncomputable def spec_GetInt_l0 (b0 : List Int) (n4 : Int) (i5 : Int) : Option ((Int × Int) ⊕ Int) :=
  cond (decide (i5 < (b0.length : Int)))
    ((at? b0 i5).bind fun x28 =>
    let n4_1 := bor .i64 (w64 (n4 * 2 ^ 8)) (w64 (x28))
    some (.inl (n4_1, w64 (i5 + 1))))
    (some (.inr n4))
noncomputable def spec_GetInt_l0_1 (b0 : List Int) (n4_3 : Int) (i5_1 : Int) : Option ((Int × Int) ⊕ Int) :=
  cond (decide (i5_1 < (b0.length : Int)))
    ((at? b0 i5_1).bind fun x28_1 =>
    let n4_4 := bor .i64 (w64 (n4_3 * 2 ^ 8)) (w64 (x28_1))
    some (.inl (n4_4, w64 (i5_1 + 1))))
    (some (.inr n4_3))
noncomputable def spec_GetInt (b0 : List Int) : Option (Int × Bool) :=
  (spec_l1In (b0.length : Int) 1 4).bind fun t8 =>
  cond (!t8)
    (some (0, false))
    ((at? b0 0).bind fun x11 =>
    cond (decide ((w64 (x11)) > 127))
      ((loop (fun z => spec_GetInt_l0 b0 z.1 z.2) (w64 ((w64 (x11)) - 256), 1)).bind fun d =>
      (spec_PutInt d).bind fun t33 =>
      cond ((t33.length : Int) != (b0.length : Int)) (some (0, false)) (some (d, true)))
      ((loop (fun z => spec_GetInt_l0_1 b0 z.1 z.2) (w64 (x11), 1)).bind fun d_1 =>
      (spec_PutInt d_1).bind fun t33_1 =>
      cond ((t33_1.length : Int) != (b0.length : Int)) (some (0, false)) (some (d_1, true))))
noncomputable def F_spec_GetInt : Fn := ⟨[.val false (.one (.sl (.one (.int .u8)))) false], [.val false (.one (.int .i64)) true, .val false (.one .bool) true], fun a => spec_GetInt a⟩
def a_spec_GetInt : List (Nat × LoopAnn) := [(0, ⟨⟨[(4, false, [.dat (.int .i64)]), (5, false, [.dat (.int .i64)])], []⟩,
    ⟨[(4, false, [.dat (.int .i64)])], []⟩, none⟩)]
theorem e_spec_GetInt : fnDen ⟨tis, fns_59, [], false⟩ a_spec_GetInt Try.f38 (codeOf Try.f38) [.val false (.one (.sl (.one (.int .u8)))) false] [.val false (.one (.int .i64)) true, .val false (.one .bool) true] = fun a => spec_GetInt a := by kernel_rfl
theorem m_spec_GetInt : Meets Try.prog 38 F_spec_GetInt := by
  have h := meets_of (ann := a_spec_GetInt) (ps := [.val false (.one (.sl (.one (.int .u8)))) false]) (rs := [.val false (.one (.int .i64)) true, .val false (.one .bool) true]) g_59 mixed Try.func38 (by kernel_rfl) (by kernel_rfl : Try.f38.body = some (codeOf Try.f38))
  rw [e_spec_GetInt] at h
  exact h
noncomputable def fns_38 : List (FuncId × Fn) := (38, F_spec_GetInt) :: fns_59
theorem g_38 : Good Try.prog ⟨tis, fns_38, [], false⟩ := g_59.cons m_spec_GetInt
noncomputable def spec_l4Num (r0 : L4Reader) : Option (L4Reader × Int) :=
  (spec_l4Part r0 2).bind fun t7 =>
  (spec_GetInt t7.2).bind fun t8 =>
  (cond t7.1.2.2 (some true) (some (!t8.2))).bind fun t19 =>
  some ((t7.1.1, t7.1.2.1, t19), t8.1)
noncomputable def F_spec_l4Num : Fn := ⟨[.ptr cL4Reader false], [.val false (.one (.int .i64)) true], fun a => spec_l4Num a⟩
def a_spec_l4Num : List (Nat × LoopAnn) := []
theorem e_spec_l4Num : fnDen ⟨tis, fns_38, [], false⟩ a_spec_l4Num Try.f22 (codeOf Try.f22) [.ptr cL4Reader false] [.val false (.one (.int .i64)) true] = fun a => spec_l4Num a := by kernel_rfl
theorem m_spec_l4Num : Meets Try.prog 22 F_spec_l4Num := by
  have h := meets_of (ann := a_spec_l4Num) (ps := [.ptr cL4Reader false]) (rs := [.val false (.one (.int .i64)) true]) g_38 mixed Try.func22 (by kernel_rfl) (by kernel_rfl : Try.f22.body = some (codeOf Try.f22))
  rw [e_spec_l4Num] at h
  exact h
noncomputable def fns_22 : List (FuncId × Fn) := (22, F_spec_l4Num) :: fns_38
theorem g_22 : Good Try.prog ⟨tis, fns_22, [], false⟩ := g_38.cons m_spec_l4Num
noncomputable def spec_OidOk_l0 (o0 : List Int) (i3 : Int) : Option (Int ⊕ (Unit ⊕ Bool)) :=
  cond (decide (i3 < (o0.length : Int)))
    ((at? o0 i3).bind fun x12 =>
    (spec_l1In x12 0 100000).bind fun t14 =>
    cond (!t14) (some (.inr (.inr false))) (some (.inl (w64 (i3 + 1)))))
    (some (.inr (.inl ())))
noncomputable def spec_OidOk (o0 : List Int) : Option Bool :=
  (loop (fun z => spec_OidOk_l0 o0 z) 0).bind (Sum.elim (fun d =>
    (spec_l1In (o0.length : Int) 1 10).bind fun t18 =>
    some t18) (fun r => some r))
noncomputable def F_spec_OidOk : Fn := ⟨[.val false (.one (.sl (.one (.int .i64)))) false], [.val false (.one .bool) true], fun a => spec_OidOk a⟩
def a_spec_OidOk : List (Nat × LoopAnn) := [(0, ⟨⟨[(3, false, [.dat (.int .i64)])], []⟩,
    ⟨[], []⟩, some ⟨[(2, false, [.dat .bool])], []⟩⟩)]
theorem e_spec_OidOk : fnDen ⟨tis, fns_22, [], false⟩ a_spec_OidOk Try.f62 (codeOf Try.f62) [.val false (.one (.sl (.one (.int .i64)))) false] [.val false (.one .bool) true] = fun a => spec_OidOk a := by kernel_rfl
theorem m_spec_OidOk : Meets Try.prog 62 F_spec_OidOk := by
  have h := meets_of (ann := a_spec_OidOk) (ps := [.val false (.one (.sl (.one (.int .i64)))) false]) (rs := [.val false (.one .bool) true]) g_22 mixed Try.func62 (by kernel_rfl) (by kernel_rfl : Try.f62.body = some (codeOf Try.f62))
  rw [e_spec_OidOk] at h
  exact h
noncomputable def fns_62 : List (FuncId × Fn) := (62, F_spec_OidOk) :: fns_22
theorem g_62 : Good Try.prog ⟨tis, fns_62, [], false⟩ := g_22.cons m_spec_OidOk
noncomputable def spec_l2Group_l0 (n0_1 : Int) (out3 : List Int) : Option ((Int × List Int) ⊕ (List Int)) :=
  cond (decide (n0_1 > 127))
    ((app [IntKind.u8.wrap (bor .i64 (band .i64 (n0_1.fdiv (2 ^ 7)) 127) 128)] out3).bind fun zs18 =>
    some (.inl (n0_1.fdiv (2 ^ 7), zs18)))
    (some (.inr out3))
noncomputable def spec_l2Group (n0 : Int) : Option (List Int) :=
  (loop (fun z => spec_l2Group_l0 z.1 z.2) (n0, [IntKind.u8.wrap (band .i64 n0 127)])).bind fun d =>
  some d
noncomputable def F_spec_l2Group : Fn := ⟨[.val false (.one (.int .i64)) false], [.val false (.one (.sl (.one (.int .u8)))) true], fun a => spec_l2Group a⟩
def a_spec_l2Group : List (Nat × LoopAnn) := [(0, ⟨⟨[(0, false, [.dat (.int .i64)]), (3, false, [.own 1000000000])], [(1000000000, .root (.one (.int .u8)) true)]⟩,
    ⟨[(3, false, [.own 1000000300])], [(1000000300, .root (.one (.int .u8)) true)]⟩, none⟩)]
theorem e_spec_l2Group : fnDen ⟨tis, fns_62, [], false⟩ a_spec_l2Group Try.f78 (codeOf Try.f78) [.val false (.one (.int .i64)) false] [.val false (.one (.sl (.one (.int .u8)))) true] = fun a => spec_l2Group a := by kernel_rfl
theorem m_spec_l2Group : Meets Try.prog 78 F_spec_l2Group := by
  have h := meets_of (ann := a_spec_l2Group) (ps := [.val false (.one (.int .i64)) false]) (rs := [.val false (.one (.sl (.one (.int .u8)))) true]) g_62 mixed Try.func78 (by kernel_rfl) (by kernel_rfl : Try.f78.body = some (codeOf Try.f78))
  rw [e_spec_l2Group] at h
  exact h
noncomputable def fns_78 : List (FuncId × Fn) := (78, F_spec_l2Group) :: fns_62
theorem g_78 : Good Try.prog ⟨tis, fns_78, [], false⟩ := g_62.cons m_spec_l2Group
noncomputable def spec_GetOid_l2 (p0 : List Int) (t5_1 : Int) (t6 : Int) (t7 : Int) (t8 : Bool) : Option ((Int × Int × Int × Bool) ⊕ (Int × Int × Int × Bool)) :=
  (cond t8 (some (decide (t5_1 < (p0.length : Int)))) (some false)).bind fun t25 =>
  (cond t25 (some (decide (t7 < 4))) (some false)).bind fun t29 =>
  cond t29
    ((at? p0 t5_1).bind fun x34 =>
    let t6_1 := bor .i64 (w64 (t6 * 2 ^ 7)) (w64 (band .u8 x34 127))
    (at? p0 t5_1).bind fun x41 =>
    some (.inl (w64 (t5_1 + 1), t6_1, w64 (t7 + 1), decide (x41 > 127))))
    (some (.inr (t5_1, t6, t7, t8)))
noncomputable def spec_GetOid_l0 (p0 : List Int) (t5 : Int) (t4 : List Int) : Option ((Int × List Int) ⊕ ((Int × List Int) ⊕ (Bool × List Int))) :=
  (cond (decide (t5 < (p0.length : Int))) (some (decide ((t4.length : Int) ≤ 10))) (some false)).bind fun t18 =>
  cond t18
    ((loop (fun z => spec_GetOid_l2 p0 z.1 z.2.1 z.2.2.1 z.2.2.2) (t5, 0, 0, true)).bind fun d =>
    (cond d.2.2.2
      (some true)
      ((spec_l2Group d.2.1).bind fun t51 =>
      some ((t51.length : Int) != d.2.2.1))).bind fun t55 =>
    cond t55
      (some (.inr (.inr (false, ([] : List Int)))))
      ((app t4 [d.2.1]).bind fun zs60 =>
      some (.inl (d.1, zs60))))
    (some (.inr (.inl (t5, t4))))
noncomputable def spec_GetOid (p0 : List Int) : Option ((List Int) × Bool) :=
  (loop (fun z => spec_GetOid_l0 p0 z.1 z.2) (0, ([] : List Int))).bind (Sum.elim (fun d_1 =>
    (cond (d_1.1 != (p0.length : Int))
      (some true)
      ((spec_OidOk d_1.2).bind fun t67 =>
      some (!t67))).bind fun t69 =>
    cond t69 (some (([] : List Int), false)) (some (d_1.2, true))) (fun r => some (r.2, r.1)))
noncomputable def F_spec_GetOid : Fn := ⟨[.val false (.one (.sl (.one (.int .u8)))) false], [.val false (.one (.sl (.one (.int .i64)))) true, .val false (.one .bool) true], fun a => spec_GetOid a⟩
def a_spec_GetOid : List (Nat × LoopAnn) := [(0, ⟨⟨[(4, false, [.own 1000000000]), (5, false, [.dat (.int .i64)]), (15, false, [.undef]), (16, false, [.undef]), (17, false, [.undef]), (21, false, [.undef]), (22, false, [.undef]), (23, false, [.undef]), (24, false, [.undef]), (27, false, [.undef]), (28, false, [.undef]), (50, false, [.undef]), (51, false, [.undef]), (52, false, [.undef]), (53, false, [.undef]), (54, false, [.undef])], [(1000000000, .root (.one (.int .i64)) true)]⟩,
    ⟨[(4, false, [.own 1000000300]), (5, false, [.dat (.int .i64)])], [(1000000300, .root (.one (.int .i64)) true)]⟩, some ⟨[(2, false, [.own 1000000600]), (3, false, [.dat .bool])], [(1000000600, .root (.one (.int .i64)) true)]⟩⟩),
  (2, ⟨⟨[(5, false, [.dat (.int .i64)]), (6, false, [.dat (.int .i64)]), (7, false, [.dat (.int .i64)]), (8, false, [.dat .bool]), (21, false, [.undef]), (22, false, [.undef]), (23, false, [.undef]), (24, false, [.undef]), (27, false, [.undef]), (28, false, [.undef])], []⟩,
    ⟨[(5, false, [.dat (.int .i64)]), (6, false, [.dat (.int .i64)]), (7, false, [.dat (.int .i64)]), (8, false, [.dat .bool]), (21, false, [.undef]), (22, false, [.undef]), (23, false, [.undef]), (24, false, [.undef]), (27, false, [.undef]), (28, false, [.undef])], []⟩, none⟩)]
theorem e_spec_GetOid : fnDen ⟨tis, fns_78, [], false⟩ a_spec_GetOid Try.f60 (codeOf Try.f60) [.val false (.one (.sl (.one (.int .u8)))) false] [.val false (.one (.sl (.one (.int .i64)))) true, .val false (.one .bool) true] = fun a => spec_GetOid a := by kernel_rfl
theorem m_spec_GetOid : Meets Try.prog 60 F_spec_GetOid := by
  have h := meets_of (ann := a_spec_GetOid) (ps := [.val false (.one (.sl (.one (.int .u8)))) false]) (rs := [.val false (.one (.sl (.one (.int .i64)))) true, .val false (.one .bool) true]) g_78 mixed Try.func60 (by kernel_rfl) (by kernel_rfl : Try.f60.body = some (codeOf Try.f60))
  rw [e_spec_GetOid] at h
  exact h
noncomputable def fns_60 : List (FuncId × Fn) := (60, F_spec_GetOid) :: fns_78
theorem g_60 : Good Try.prog ⟨tis, fns_60, [], false⟩ := g_78.cons m_spec_GetOid
noncomputable def spec_ValOk (p0 : Val) : Option Bool :=
  cond (p0.1 == 5)
    (cond (p0.1 == 5)
      ((cond (p0.2.1 == 0) (some (p0.2.2.1 == [])) (some false)).bind fun t16 =>
      (cond t16 (some ((p0.2.2.2.length : Int) == 0)) (some false)).bind fun t22 =>
      some t22)
      (cond (p0.1 == 2)
        ((spec_l1Clip p0.2.1).bind fun t27 =>
        (cond (t27 == p0.2.1) (some (p0.2.2.1 == [])) (some false)).bind fun t35 =>
        (cond t35 (some ((p0.2.2.2.length : Int) == 0)) (some false)).bind fun t41 =>
        some t41)
        (cond (p0.1 == 4)
          ((cond (decide ((p0.2.2.1.length : Int) ≤ 20)) (some (p0.2.1 == 0)) (some false)).bind fun t52 =>
          (cond t52 (some ((p0.2.2.2.length : Int) == 0)) (some false)).bind fun t58 =>
          some t58)
          (cond (p0.1 == 6)
            ((spec_OidOk p0.2.2.2).bind fun t63 =>
            (cond t63 (some (p0.2.1 == 0)) (some false)).bind fun t68 =>
            (cond t68 (some (p0.2.2.1 == [])) (some false)).bind fun t73 =>
            some t73)
            (some false)))))
    (cond (p0.1 == 128)
      (cond (p0.1 == 128)
        ((cond (p0.2.1 == 0) (some (p0.2.2.1 == [])) (some false)).bind fun t16_1 =>
        (cond t16_1 (some ((p0.2.2.2.length : Int) == 0)) (some false)).bind fun t22_1 =>
        some t22_1)
        (cond (p0.1 == 2)
          ((spec_l1Clip p0.2.1).bind fun t27_1 =>
          (cond (t27_1 == p0.2.1) (some (p0.2.2.1 == [])) (some false)).bind fun t35_1 =>
          (cond t35_1 (some ((p0.2.2.2.length : Int) == 0)) (some false)).bind fun t41_1 =>
          some t41_1)
          (cond (p0.1 == 4)
            ((cond (decide ((p0.2.2.1.length : Int) ≤ 20)) (some (p0.2.1 == 0)) (some false)).bind fun t52_1 =>
            (cond t52_1 (some ((p0.2.2.2.length : Int) == 0)) (some false)).bind fun t58_1 =>
            some t58_1)
            (cond (p0.1 == 6)
              ((spec_OidOk p0.2.2.2).bind fun t63_1 =>
              (cond t63_1 (some (p0.2.1 == 0)) (some false)).bind fun t68_1 =>
              (cond t68_1 (some (p0.2.2.1 == [])) (some false)).bind fun t73_1 =>
              some t73_1)
              (some false)))))
      (cond (p0.1 == 130)
        ((cond (p0.2.1 == 0) (some (p0.2.2.1 == [])) (some false)).bind fun t16_2 =>
        (cond t16_2 (some ((p0.2.2.2.length : Int) == 0)) (some false)).bind fun t22_2 =>
        some t22_2)
        (cond (p0.1 == 2)
          ((spec_l1Clip p0.2.1).bind fun t27_2 =>
          (cond (t27_2 == p0.2.1) (some (p0.2.2.1 == [])) (some false)).bind fun t35_2 =>
          (cond t35_2 (some ((p0.2.2.2.length : Int) == 0)) (some false)).bind fun t41_2 =>
          some t41_2)
          (cond (p0.1 == 4)
            ((cond (decide ((p0.2.2.1.length : Int) ≤ 20)) (some (p0.2.1 == 0)) (some false)).bind fun t52_2 =>
            (cond t52_2 (some ((p0.2.2.2.length : Int) == 0)) (some false)).bind fun t58_2 =>
            some t58_2)
            (cond (p0.1 == 6)
              ((spec_OidOk p0.2.2.2).bind fun t63_2 =>
              (cond t63_2 (some (p0.2.1 == 0)) (some false)).bind fun t68_2 =>
              (cond t68_2 (some (p0.2.2.1 == [])) (some false)).bind fun t73_2 =>
              some t73_2)
              (some false))))))
noncomputable def F_spec_ValOk : Fn := ⟨[.val true cVal false], [.val false (.one .bool) true], fun a => spec_ValOk a⟩
def a_spec_ValOk : List (Nat × LoopAnn) := []
theorem e_spec_ValOk : fnDen ⟨tis, fns_60, [], false⟩ a_spec_ValOk Try.f63 (codeOf Try.f63) [.val true cVal false] [.val false (.one .bool) true] = fun a => spec_ValOk a := by kernel_rfl
theorem m_spec_ValOk : Meets Try.prog 63 F_spec_ValOk := by
  have h := meets_of (ann := a_spec_ValOk) (ps := [.val true cVal false]) (rs := [.val false (.one .bool) true]) g_60 mixed Try.func63 (by kernel_rfl) (by kernel_rfl : Try.f63.body = some (codeOf Try.f63))
  rw [e_spec_ValOk] at h
  exact h
noncomputable def fns_63 : List (FuncId × Fn) := (63, F_spec_ValOk) :: fns_60
theorem g_63 : Good Try.prog ⟨tis, fns_63, [], false⟩ := g_60.cons m_spec_ValOk
noncomputable def spec_GetVal (b0 : List Int) (at1 : Int) : Option (Val × Int × Bool) :=
  (spec_GetTlv b0 at1).bind fun t16 =>
  cond (t16.1 == 2)
    ((spec_GetInt t16.2.1).bind fun t31 =>
    (cond (!t16.2.2.2) (some true) (some (!t31.2))).bind fun t53 =>
    (cond t53
      (some true)
      ((spec_ValOk (t16.1, t31.1, [], [])).bind fun t56 =>
      some (!t56))).bind fun t58 =>
    cond t58
      (some ((0, 0, [], []), 0, false))
      (some ((t16.1, t31.1, [], []), t16.2.2.1, true)))
    (cond (t16.1 == 4)
      ((cond (!t16.2.2.2) (some true) (some (!true))).bind fun t53_1 =>
      (cond t53_1
        (some true)
        ((spec_ValOk (t16.1, 0, bytesOf t16.2.1, [])).bind fun t56_1 =>
        some (!t56_1))).bind fun t58_1 =>
      cond t58_1
        (some ((0, 0, [], []), 0, false))
        (some ((t16.1, 0, bytesOf t16.2.1, []), t16.2.2.1, true)))
      (cond (t16.1 == 6)
        ((spec_GetOid t16.2.1).bind fun t44 =>
        (cond (!t16.2.2.2) (some true) (some (!t44.2))).bind fun t53_2 =>
        (cond t53_2
          (some true)
          ((spec_ValOk (t16.1, 0, [], t44.1)).bind fun t56_2 =>
          some (!t56_2))).bind fun t58_2 =>
        cond t58_2
          (some ((0, 0, [], []), 0, false))
          (some ((t16.1, 0, [], t44.1), t16.2.2.1, true)))
        (let is12 := (t16.2.1.length : Int) == 0
        (cond (!t16.2.2.2) (some true) (some (!is12))).bind fun t53_3 =>
        (cond t53_3
          (some true)
          ((spec_ValOk (t16.1, 0, [], [])).bind fun t56_3 =>
          some (!t56_3))).bind fun t58_3 =>
        cond t58_3
          (some ((0, 0, [], []), 0, false))
          (some ((t16.1, 0, [], []), t16.2.2.1, true)))))
noncomputable def F_spec_GetVal : Fn := ⟨[.val false (.one (.sl (.one (.int .u8)))) false, .val false (.one (.int .i64)) false], [.val true cVal true, .val false (.one (.int .i64)) true, .val false (.one .bool) true], fun a => spec_GetVal a.1 a.2⟩
def a_spec_GetVal : List (Nat × LoopAnn) := []
theorem e_spec_GetVal : fnDen ⟨tis, fns_63, [], false⟩ a_spec_GetVal Try.f61 (codeOf Try.f61) [.val false (.one (.sl (.one (.int .u8)))) false, .val false (.one (.int .i64)) false] [.val true cVal true, .val false (.one (.int .i64)) true, .val false (.one .bool) true] = fun a => spec_GetVal a.1 a.2 := by kernel_rfl
theorem m_spec_GetVal : Meets Try.prog 61 F_spec_GetVal := by
  have h := meets_of (ann := a_spec_GetVal) (ps := [.val false (.one (.sl (.one (.int .u8)))) false, .val false (.one (.int .i64)) false]) (rs := [.val true cVal true, .val false (.one (.int .i64)) true, .val false (.one .bool) true]) g_63 mixed Try.func61 (by kernel_rfl) (by kernel_rfl : Try.f61.body = some (codeOf Try.f61))
  rw [e_spec_GetVal] at h
  exact h
noncomputable def fns_61 : List (FuncId × Fn) := (61, F_spec_GetVal) :: fns_63
theorem g_61 : Good Try.prog ⟨tis, fns_61, [], false⟩ := g_63.cons m_spec_GetVal
noncomputable def spec_l4Bind (b0 : List Int) : Option (Bind × Bool) :=
  (spec_l4Part (b0, 0, false) 6).bind fun t15 =>
  (spec_GetOid t15.2).bind fun t16 =>
  (spec_GetVal b0 t15.1.2.1).bind fun t25 =>
  (cond t15.1.2.2 (some true) (some (!t16.2))).bind fun t36 =>
  (cond t36 (some true) (some (!t25.2.2))).bind fun t40 =>
  (cond t40 (some true) (some (t25.2.1 != (b0.length : Int)))).bind fun t46 =>
  cond t46
    (some (([], 0, 0, [], []), false))
    (some ((t16.1, t25.1.1, t25.1.2.1, t25.1.2.2.1, t25.1.2.2.2), true))
noncomputable def F_spec_l4Bind : Fn := ⟨[.val false (.one (.sl (.one (.int .u8)))) false], [.val true cBind true, .val false (.one .bool) true], fun a => spec_l4Bind a⟩
def a_spec_l4Bind : List (Nat × LoopAnn) := []
theorem e_spec_l4Bind : fnDen ⟨tis, fns_61, [], false⟩ a_spec_l4Bind Try.f39 (codeOf Try.f39) [.val false (.one (.sl (.one (.int .u8)))) false] [.val true cBind true, .val false (.one .bool) true] = fun a => spec_l4Bind a := by kernel_rfl
theorem m_spec_l4Bind : Meets Try.prog 39 F_spec_l4Bind := by
  have h := meets_of (ann := a_spec_l4Bind) (ps := [.val false (.one (.sl (.one (.int .u8)))) false]) (rs := [.val true cBind true, .val false (.one .bool) true]) g_61 mixed Try.func39 (by kernel_rfl) (by kernel_rfl : Try.f39.body = some (codeOf Try.f39))
  rw [e_spec_l4Bind] at h
  exact h
noncomputable def fns_39 : List (FuncId × Fn) := (39, F_spec_l4Bind) :: fns_61
theorem g_39 : Good Try.prog ⟨tis, fns_39, [], false⟩ := g_61.cons m_spec_l4Bind
noncomputable def spec_l4Kind (k0 : Int) : Option Bool :=
  (cond (k0 == 160) (some true) (some (k0 == 161))).bind fun t8 =>
  (cond t8 (some true) (some (k0 == 162))).bind fun t12 =>
  (cond t12 (some true) (some (k0 == 163))).bind fun t16 =>
  (cond t16 (some true) (some (k0 == 165))).bind fun t20 =>
  some t20
noncomputable def F_spec_l4Kind : Fn := ⟨[.val false (.one (.int .i64)) false], [.val false (.one .bool) true], fun a => spec_l4Kind a⟩
def a_spec_l4Kind : List (Nat × LoopAnn) := []
theorem e_spec_l4Kind : fnDen ⟨tis, fns_39, [], false⟩ a_spec_l4Kind Try.f64 (codeOf Try.f64) [.val false (.one (.int .i64)) false] [.val false (.one .bool) true] = fun a => spec_l4Kind a := by kernel_rfl
theorem m_spec_l4Kind : Meets Try.prog 64 F_spec_l4Kind := by
  have h := meets_of (ann := a_spec_l4Kind) (ps := [.val false (.one (.int .i64)) false]) (rs := [.val false (.one .bool) true]) g_39 mixed Try.func64 (by kernel_rfl) (by kernel_rfl : Try.f64.body = some (codeOf Try.f64))
  rw [e_spec_l4Kind] at h
  exact h
noncomputable def fns_64 : List (FuncId × Fn) := (64, F_spec_l4Kind) :: fns_39
theorem g_64 : Good Try.prog ⟨tis, fns_64, [], false⟩ := g_39.cons m_spec_l4Kind
noncomputable def spec_PduOk_l0 (p0 : Pdu) (t3 : Int) : Option (Int ⊕ (Unit ⊕ Bool)) :=
  cond (decide (t3 < (p0.2.2.2.2.length : Int)))
    ((at? p0.2.2.2.2 t3).bind fun x14 =>
    (spec_OidOk x14.1).bind fun t17 =>
    (cond (!t17)
      (some true)
      ((at? p0.2.2.2.2 t3).bind fun x23 =>
      (spec_ValOk x23.2).bind fun t26 =>
      some (!t26))).bind fun t28 =>
    cond t28 (some (.inr (.inr false))) (some (.inl (w64 (t3 + 1)))))
    (some (.inr (.inl ())))
noncomputable def spec_PduOk (p0 : Pdu) : Option Bool :=
  (loop (fun z => spec_PduOk_l0 p0 z) 0).bind (Sum.elim (fun d =>
    (cond (p0.1 != 162) (some (p0.1 != 165)) (some false)).bind fun t36 =>
    (cond t36
      ((cond (p0.2.2.1 != 0) (some true) (some (p0.2.2.2.1 != 0))).bind fun t45 =>
      some t45)
      (some false)).bind fun t46 =>
    cond t46
      (some false)
      ((spec_l4Kind p0.1).bind fun t49 =>
      (cond t49
        ((spec_l1Clip p0.2.1).bind fun t53 =>
        some (t53 == p0.2.1))
        (some false)).bind fun t57 =>
      (cond t57
        ((spec_l1In p0.2.2.1 0 1000).bind fun t61 =>
        some t61)
        (some false)).bind fun t62 =>
      (cond t62
        ((spec_l1In p0.2.2.2.1 0 1000).bind fun t66 =>
        some t66)
        (some false)).bind fun t67 =>
      (cond t67 (some (decide ((p0.2.2.2.2.length : Int) ≤ 10))) (some false)).bind fun t73 =>
      some t73)) (fun r => some r))
noncomputable def F_spec_PduOk : Fn := ⟨[.val true cPdu false], [.val false (.one .bool) true], fun a => spec_PduOk a⟩
def a_spec_PduOk : List (Nat × LoopAnn) := [(0, ⟨⟨[(3, false, [.dat (.int .i64)]), (20, false, [.undef]), (21, false, [.undef]), (22, false, [.undef]), (23, false, [.undef]), (24, false, [.undef]), (25, false, [.undef]), (26, false, [.undef]), (27, false, [.undef])], []⟩,
    ⟨[], []⟩, some ⟨[(2, false, [.dat .bool])], []⟩⟩)]
theorem e_spec_PduOk : fnDen ⟨tis, fns_64, [], false⟩ a_spec_PduOk Try.f40 (codeOf Try.f40) [.val true cPdu false] [.val false (.one .bool) true] = fun a => spec_PduOk a := by kernel_rfl
theorem m_spec_PduOk : Meets Try.prog 40 F_spec_PduOk := by
  have h := meets_of (ann := a_spec_PduOk) (ps := [.val true cPdu false]) (rs := [.val false (.one .bool) true]) g_64 mixed Try.func40 (by kernel_rfl) (by kernel_rfl : Try.f40.body = some (codeOf Try.f40))
  rw [e_spec_PduOk] at h
  exact h
noncomputable def fns_40 : List (FuncId × Fn) := (40, F_spec_PduOk) :: fns_64
theorem g_40 : Good Try.prog ⟨tis, fns_40, [], false⟩ := g_64.cons m_spec_PduOk
noncomputable def spec_GetPdu_l0 (b0 : List Int) (b1 : Int) (b2 : Bool) (b0_1 : Int) (b1_1 : Int) (b2_1 : Int) (b3 : Int) (b0_2 : List Int) (b1_2 : Int) (b2_2 : Bool) (b4 : List Bind) : Option ((List Int × Int × Bool × Int × Int × Int × Int × List Int × Int × Bool × List Bind) ⊕ (List Int × Int × Bool × Int × Int × Int × Int × List Int × Int × Bool × List Bind)) :=
  (cond (!b2) (some (decide (b1_2 < (b0_2.length : Int)))) (some false)).bind fun t54 =>
  (cond t54 (some (decide ((b4.length : Int) ≤ 10))) (some false)).bind fun t60 =>
  cond t60
    ((spec_l4Part (b0_2, b1_2, b2_2) 48).bind fun t63 =>
    (spec_l4Bind t63.2).bind fun t64 =>
    (cond t63.1.2.2 (some true) (some (!t64.2))).bind fun t75 =>
    (app b4 [t64.1]).bind fun zs82 =>
    some (.inl (b0, b1, t75, b0_1, b1_1, b2_1, b3, t63.1.1, t63.1.2.1, t63.1.2.2, zs82)))
    (some (.inr (b0, b1, b2, b0_1, b1_1, b2_1, b3, b0_2, b1_2, b2_2, b4)))
noncomputable def spec_GetPdu (p0 : List Int) : Option (Pdu × Bool) :=
  (spec_GetTlv p0 0).bind fun t15 =>
  (spec_l4Num (t15.2.1, 0, false)).bind fun t26 =>
  (spec_l4Num t26.1).bind fun t29 =>
  (spec_l4Num t29.1).bind fun t32 =>
  (spec_l4Part t32.1 48).bind fun t35 =>
  (loop (fun z => spec_GetPdu_l0 z.1 z.2.1 z.2.2.1 z.2.2.2.1 z.2.2.2.2.1 z.2.2.2.2.2.1 z.2.2.2.2.2.2.1 z.2.2.2.2.2.2.2.1 z.2.2.2.2.2.2.2.2.1 z.2.2.2.2.2.2.2.2.2.1 z.2.2.2.2.2.2.2.2.2.2) (t35.1.1, t35.1.2.1, t35.1.2.2, t15.1, t26.2, t29.2, t32.2, t35.2, 0, false, [])).bind fun d =>
  (cond (!t15.2.2.2) (some true) (some (t15.2.2.1 != (p0.length : Int)))).bind fun t91 =>
  (cond t91 (some true) (some d.2.2.1)).bind fun t97 =>
  (cond t97 (some true) (some (d.2.1 != (t15.2.1.length : Int)))).bind fun t106 =>
  (cond t106
    (some true)
    (some (d.2.2.2.2.2.2.2.2.1 != (d.2.2.2.2.2.2.2.1.length : Int)))).bind fun t118 =>
  (cond t118
    (some true)
    ((spec_PduOk (d.2.2.2.1, d.2.2.2.2.1, d.2.2.2.2.2.1, d.2.2.2.2.2.2.1, d.2.2.2.2.2.2.2.2.2.2)).bind fun t121 =>
    some (!t121))).bind fun t123 =>
  cond t123
    (some ((0, 0, 0, 0, []), false))
    (some ((d.2.2.2.1, d.2.2.2.2.1, d.2.2.2.2.2.1, d.2.2.2.2.2.2.1, d.2.2.2.2.2.2.2.2.2.2), true))
noncomputable def F_spec_GetPdu : Fn := ⟨[.val false (.one (.sl (.one (.int .u8)))) false], [.val true cPdu true, .val false (.one .bool) true], fun a => spec_GetPdu a⟩
def a_spec_GetPdu : List (Nat × LoopAnn) := [(0, ⟨⟨[(44, false, [.undef]), (45, false, [.undef]), (46, false, [.undef]), (47, false, [.undef]), (48, false, [.undef]), (49, false, [.undef]), (50, false, [.undef]), (51, false, [.undef]), (52, false, [.undef]), (53, false, [.undef]), (56, false, [.undef]), (57, false, [.undef]), (58, false, [.undef]), (59, false, [.undef]), (73, false, [.undef]), (74, false, [.undef])], [(527360, .box [.dat (.sl (.one (.int .u8))), .dat (.int .i64), .dat .bool]), (789504, .box [.dat (.int .i64), .dat (.int .i64), .dat (.int .i64), .dat (.int .i64), .own 1000000000]), (1839104, .box [.dat (.sl (.one (.int .u8))), .dat (.int .i64), .dat .bool]), (1000000000, .root cBind true)]⟩,
    ⟨[], [(527360, .box [.dat (.sl (.one (.int .u8))), .dat (.int .i64), .dat .bool]), (789504, .box [.dat (.int .i64), .dat (.int .i64), .dat (.int .i64), .dat (.int .i64), .own 1000000300]), (1839104, .box [.dat (.sl (.one (.int .u8))), .dat (.int .i64), .dat .bool]), (1000000300, .root cBind true)]⟩, none⟩)]
theorem e_spec_GetPdu : fnDen ⟨tis, fns_40, [], false⟩ a_spec_GetPdu Try.f24 (codeOf Try.f24) [.val false (.one (.sl (.one (.int .u8)))) false] [.val true cPdu true, .val false (.one .bool) true] = fun a => spec_GetPdu a := by kernel_rfl
theorem m_spec_GetPdu : Meets Try.prog 24 F_spec_GetPdu := by
  have h := meets_of (ann := a_spec_GetPdu) (ps := [.val false (.one (.sl (.one (.int .u8)))) false]) (rs := [.val true cPdu true, .val false (.one .bool) true]) g_40 mixed Try.func24 (by kernel_rfl) (by kernel_rfl : Try.f24.body = some (codeOf Try.f24))
  rw [e_spec_GetPdu] at h
  exact h
noncomputable def fns_24 : List (FuncId × Fn) := (24, F_spec_GetPdu) :: fns_40
theorem g_24 : Good Try.prog ⟨tis, fns_24, [], false⟩ := g_40.cons m_spec_GetPdu
noncomputable def spec_GetMsg (p0 : List UInt8) (i1 : List Int) : Option (Pdu × Int) :=
  (spec_GetTlv i1 0).bind fun t17 =>
  (spec_l4Num (t17.2.1, 0, false)).bind fun t26 =>
  (spec_l4Part t26.1 4).bind fun t28 =>
  (cond (!t17.2.2.2) (some true) (some (t17.1 != 48))).bind fun t34 =>
  (cond t34 (some true) (some (t17.2.2.1 != (i1.length : Int)))).bind fun t40 =>
  (cond t40 (some true) (some t28.1.2.2)).bind fun t46 =>
  cond t46
    (some ((0, 0, 0, 0, []), 1))
    (cond (t26.2 != 1)
      (some ((0, 0, 0, 0, []), 2))
      (cond (!((bytesOf t28.2) == p0))
        (some ((0, 0, 0, 0, []), 3))
        ((cut t17.2.1 t28.1.2.1 (t17.2.1.length : Int)).bind fun t62 =>
        (spec_GetPdu t62).bind fun t63 =>
        cond (!t63.2) (some ((0, 0, 0, 0, []), 1)) (some (t63.1, 0)))))
noncomputable def F_spec_GetMsg : Fn := ⟨[.val false (.one .str) false, .val false (.one (.sl (.one (.int .u8)))) false], [.val true cPdu true, .val false (.one (.int .i64)) true], fun a => spec_GetMsg a.1 a.2⟩
def a_spec_GetMsg : List (Nat × LoopAnn) := []
theorem e_spec_GetMsg : fnDen ⟨tis, fns_24, [], false⟩ a_spec_GetMsg Try.f11 (codeOf Try.f11) [.val false (.one .str) false, .val false (.one (.sl (.one (.int .u8)))) false] [.val true cPdu true, .val false (.one (.int .i64)) true] = fun a => spec_GetMsg a.1 a.2 := by kernel_rfl
theorem m_spec_GetMsg : Meets Try.prog 11 F_spec_GetMsg := by
  have h := meets_of (ann := a_spec_GetMsg) (ps := [.val false (.one .str) false, .val false (.one (.sl (.one (.int .u8)))) false]) (rs := [.val true cPdu true, .val false (.one (.int .i64)) true]) g_24 mixed Try.func11 (by kernel_rfl) (by kernel_rfl : Try.f11.body = some (codeOf Try.f11))
  rw [e_spec_GetMsg] at h
  exact h
noncomputable def fns_11 : List (FuncId × Fn) := (11, F_spec_GetMsg) :: fns_24
theorem g_11 : Good Try.prog ⟨tis, fns_11, [], false⟩ := g_24.cons m_spec_GetMsg
noncomputable def spec_AnswersOf_l0 (a0 : Agent) (n3 : Int) (i4 : Int) : Option ((Int × Int) ⊕ Int) :=
  cond (decide (i4 < (a0.2.2.2.2.2.2.2.2.2.2.2.2.1.length : Int)))
    ((at? a0.2.2.2.2.2.2.2.2.2.2.2.2.1 i4).bind fun x20 =>
    (spec_GetMsg a0.2.2.2.2.2.2.2.2.2.2.2.1 x20.2.1).bind fun t23 =>
    (at? a0.2.2.2.2.2.2.2.2.2.2.2.2.1 i4).bind fun x29 =>
    (cond (decide (x29.2.2.1 > 0))
      (some true)
      ((cond (t23.2 == 0) (some (t23.1.1 != 162)) (some false)).bind fun t40 =>
      some t40)).bind fun t41 =>
    cond t41
      (some (.inl (w64 (n3 + 1), w64 (i4 + 1))))
      (some (.inl (n3, w64 (i4 + 1)))))
    (some (.inr n3))
noncomputable def spec_AnswersOf (a0 : Agent) : Option Int :=
  (loop (fun z => spec_AnswersOf_l0 a0 z.1 z.2) (0, 0)).bind fun d =>
  some d
noncomputable def F_spec_AnswersOf : Fn := ⟨[.val true cAgent false], [.val false (.one (.int .i64)) true], fun a => spec_AnswersOf a⟩
def a_spec_AnswersOf : List (Nat × LoopAnn) := [(0, ⟨⟨[(3, false, [.dat (.int .i64)]), (4, false, [.dat (.int .i64)]), (34, false, [.undef]), (35, false, [.undef]), (36, false, [.undef]), (37, false, [.undef]), (38, false, [.undef]), (39, false, [.undef]), (40, false, [.undef])], []⟩,
    ⟨[(3, false, [.dat (.int .i64)])], []⟩, none⟩)]
theorem e_spec_AnswersOf : fnDen ⟨tis, fns_11, [], false⟩ a_spec_AnswersOf Try.f5 (codeOf Try.f5) [.val true cAgent false] [.val false (.one (.int .i64)) true] = fun a => spec_AnswersOf a := by kernel_rfl
theorem m_spec_AnswersOf : Meets Try.prog 5 F_spec_AnswersOf := by
  have h := meets_of (ann := a_spec_AnswersOf) (ps := [.val true cAgent false]) (rs := [.val false (.one (.int .i64)) true]) g_11 mixed Try.func5 (by kernel_rfl) (by kernel_rfl : Try.f5.body = some (codeOf Try.f5))
  rw [e_spec_AnswersOf] at h
  exact h
noncomputable def fns_5 : List (FuncId × Fn) := (5, F_spec_AnswersOf) :: fns_11
theorem g_5 : Good Try.prog ⟨tis, fns_5, [], false⟩ := g_11.cons m_spec_AnswersOf
noncomputable def laws_toVec (a0 : Vec) : Option Vec :=
  some a0
noncomputable def F_laws_toVec : Fn := ⟨[.val true cVec false], [.val true cVec true], fun a => laws_toVec a⟩
def a_laws_toVec : List (Nat × LoopAnn) := []
theorem e_laws_toVec : fnDen ⟨tis, fns_5, [], false⟩ a_laws_toVec Try.f66 (codeOf Try.f66) [.val true cVec false] [.val true cVec true] = fun a => laws_toVec a := by kernel_rfl
theorem m_laws_toVec : Meets Try.prog 66 F_laws_toVec := by
  have h := meets_of (ann := a_laws_toVec) (ps := [.val true cVec false]) (rs := [.val true cVec true]) g_5 mixed Try.func66 (by kernel_rfl) (by kernel_rfl : Try.f66.body = some (codeOf Try.f66))
  rw [e_laws_toVec] at h
  exact h
noncomputable def fns_66 : List (FuncId × Fn) := (66, F_laws_toVec) :: fns_5
theorem g_66 : Good Try.prog ⟨tis, fns_66, [], false⟩ := g_5.cons m_laws_toVec
noncomputable def laws_toPt (a0 : Pt) : Option Pt :=
  (laws_toVec a0.2.2.2).bind fun t15 =>
  some (a0.1, a0.2.1, a0.2.2.1, t15.1, t15.2.1, t15.2.2.1, t15.2.2.2.1, t15.2.2.2.2)
noncomputable def F_laws_toPt : Fn := ⟨[.val true cPt false], [.val true cPt true], fun a => laws_toPt a⟩
def a_laws_toPt : List (Nat × LoopAnn) := []
theorem e_laws_toPt : fnDen ⟨tis, fns_66, [], false⟩ a_laws_toPt Try.f41 (codeOf Try.f41) [.val true cPt false] [.val true cPt true] = fun a => laws_toPt a := by kernel_rfl
theorem m_laws_toPt : Meets Try.prog 41 F_laws_toPt := by
  have h := meets_of (ann := a_laws_toPt) (ps := [.val true cPt false]) (rs := [.val true cPt true]) g_66 mixed Try.func41 (by kernel_rfl) (by kernel_rfl : Try.f41.body = some (codeOf Try.f41))
  rw [e_laws_toPt] at h
  exact h
noncomputable def fns_41 : List (FuncId × Fn) := (41, F_laws_toPt) :: fns_66
theorem g_41 : Good Try.prog ⟨tis, fns_41, [], false⟩ := g_66.cons m_laws_toPt
noncomputable def laws_toPtS_l0 (a0 : List Pt) (i4 : Int) (l : List Pt) : Option ((Int × List Pt) ⊕ (List Pt)) :=
  cond (decide (i4 < (a0.length : Int)))
    ((at? a0 i4).bind fun x18 =>
    (laws_toPt x18).bind fun t20 =>
    (ix l.length i4).bind fun j21 =>
    (l[j21]?).bind fun x =>
    some (.inl (w64 (i4 + 1), l.set j21 t20)))
    (some (.inr l))
noncomputable def laws_toPtS (a0 : List Pt) : Option (List Pt) :=
  (mkLen (a0.length : Int)).bind fun n =>
  (loop (fun z => laws_toPtS_l0 a0 z.1 z.2) (0, List.replicate n ((false, 0, false, 0, 0, 0, 0, 0) : Pt))).bind fun d =>
  some d
noncomputable def F_laws_toPtS : Fn := ⟨[.val false (.one (.sl cPt)) false], [.val false (.one (.sl cPt)) true], fun a => laws_toPtS a⟩
def a_laws_toPtS : List (Nat × LoopAnn) := [(0, ⟨⟨[(4, false, [.dat (.int .i64)])], [(265216, .keep cPt true)]⟩,
    ⟨[], [(265216, .keep cPt true)]⟩, none⟩)]
theorem e_laws_toPtS : fnDen ⟨tis, fns_41, [], false⟩ a_laws_toPtS Try.f25 (codeOf Try.f25) [.val false (.one (.sl cPt)) false] [.val false (.one (.sl cPt)) true] = fun a => laws_toPtS a := by kernel_rfl
theorem m_laws_toPtS : Meets Try.prog 25 F_laws_toPtS := by
  have h := meets_of (ann := a_laws_toPtS) (ps := [.val false (.one (.sl cPt)) false]) (rs := [.val false (.one (.sl cPt)) true]) g_41 mixed Try.func25 (by kernel_rfl) (by kernel_rfl : Try.f25.body = some (codeOf Try.f25))
  rw [e_laws_toPtS] at h
  exact h
noncomputable def fns_25 : List (FuncId × Fn) := (25, F_laws_toPtS) :: fns_41
theorem g_25 : Good Try.prog ⟨tis, fns_25, [], false⟩ := g_41.cons m_laws_toPtS
noncomputable def laws_toFent (a0 : Fent) : Option Fent :=
  some a0
noncomputable def F_laws_toFent : Fn := ⟨[.val true cFent false], [.val true cFent true], fun a => laws_toFent a⟩
def a_laws_toFent : List (Nat × LoopAnn) := []
theorem e_laws_toFent : fnDen ⟨tis, fns_25, [], false⟩ a_laws_toFent Try.f42 (codeOf Try.f42) [.val true cFent false] [.val true cFent true] = fun a => laws_toFent a := by kernel_rfl
theorem m_laws_toFent : Meets Try.prog 42 F_laws_toFent := by
  have h := meets_of (ann := a_laws_toFent) (ps := [.val true cFent false]) (rs := [.val true cFent true]) g_25 mixed Try.func42 (by kernel_rfl) (by kernel_rfl : Try.f42.body = some (codeOf Try.f42))
  rw [e_laws_toFent] at h
  exact h
noncomputable def fns_42 : List (FuncId × Fn) := (42, F_laws_toFent) :: fns_25
theorem g_42 : Good Try.prog ⟨tis, fns_42, [], false⟩ := g_25.cons m_laws_toFent
noncomputable def laws_toFentS_l0 (a0 : List Fent) (i4 : Int) (l : List Fent) : Option ((Int × List Fent) ⊕ (List Fent)) :=
  cond (decide (i4 < (a0.length : Int)))
    ((at? a0 i4).bind fun x18 =>
    (laws_toFent x18).bind fun t20 =>
    (ix l.length i4).bind fun j21 =>
    (l[j21]?).bind fun x =>
    some (.inl (w64 (i4 + 1), l.set j21 t20)))
    (some (.inr l))
noncomputable def laws_toFentS (a0 : List Fent) : Option (List Fent) :=
  (mkLen (a0.length : Int)).bind fun n =>
  (loop (fun z => laws_toFentS_l0 a0 z.1 z.2) (0, List.replicate n ((0, 0, 0, 0, false) : Fent))).bind fun d =>
  some d
noncomputable def F_laws_toFentS : Fn := ⟨[.val false (.one (.sl cFent)) false], [.val false (.one (.sl cFent)) true], fun a => laws_toFentS a⟩
def a_laws_toFentS : List (Nat × LoopAnn) := [(0, ⟨⟨[(4, false, [.dat (.int .i64)])], [(265216, .keep cFent true)]⟩,
    ⟨[], [(265216, .keep cFent true)]⟩, none⟩)]
theorem e_laws_toFentS : fnDen ⟨tis, fns_42, [], false⟩ a_laws_toFentS Try.f26 (codeOf Try.f26) [.val false (.one (.sl cFent)) false] [.val false (.one (.sl cFent)) true] = fun a => laws_toFentS a := by kernel_rfl
theorem m_laws_toFentS : Meets Try.prog 26 F_laws_toFentS := by
  have h := meets_of (ann := a_laws_toFentS) (ps := [.val false (.one (.sl cFent)) false]) (rs := [.val false (.one (.sl cFent)) true]) g_42 mixed Try.func26 (by kernel_rfl) (by kernel_rfl : Try.f26.body = some (codeOf Try.f26))
  rw [e_laws_toFentS] at h
  exact h
noncomputable def fns_26 : List (FuncId × Fn) := (26, F_laws_toFentS) :: fns_42
theorem g_26 : Good Try.prog ⟨tis, fns_26, [], false⟩ := g_42.cons m_laws_toFentS
noncomputable def laws_toVrow (a0 : Vrow) : Option Vrow :=
  some a0
noncomputable def F_laws_toVrow : Fn := ⟨[.val true cVrow false], [.val true cVrow true], fun a => laws_toVrow a⟩
def a_laws_toVrow : List (Nat × LoopAnn) := []
theorem e_laws_toVrow : fnDen ⟨tis, fns_26, [], false⟩ a_laws_toVrow Try.f67 (codeOf Try.f67) [.val true cVrow false] [.val true cVrow true] = fun a => laws_toVrow a := by kernel_rfl
theorem m_laws_toVrow : Meets Try.prog 67 F_laws_toVrow := by
  have h := meets_of (ann := a_laws_toVrow) (ps := [.val true cVrow false]) (rs := [.val true cVrow true]) g_26 mixed Try.func67 (by kernel_rfl) (by kernel_rfl : Try.f67.body = some (codeOf Try.f67))
  rw [e_laws_toVrow] at h
  exact h
noncomputable def fns_67 : List (FuncId × Fn) := (67, F_laws_toVrow) :: fns_26
theorem g_67 : Good Try.prog ⟨tis, fns_67, [], false⟩ := g_26.cons m_laws_toVrow
noncomputable def laws_toVrowS_l0 (a0 : List Vrow) (i4 : Int) (l : List Vrow) : Option ((Int × List Vrow) ⊕ (List Vrow)) :=
  cond (decide (i4 < (a0.length : Int)))
    ((at? a0 i4).bind fun x18 =>
    (laws_toVrow x18).bind fun t20 =>
    (ix l.length i4).bind fun j21 =>
    (l[j21]?).bind fun x =>
    some (.inl (w64 (i4 + 1), l.set j21 t20)))
    (some (.inr l))
noncomputable def laws_toVrowS (a0 : List Vrow) : Option (List Vrow) :=
  (mkLen (a0.length : Int)).bind fun n =>
  (loop (fun z => laws_toVrowS_l0 a0 z.1 z.2) (0, List.replicate n ((0, 0, 0) : Vrow))).bind fun d =>
  some d
noncomputable def F_laws_toVrowS : Fn := ⟨[.val false (.one (.sl cVrow)) false], [.val false (.one (.sl cVrow)) true], fun a => laws_toVrowS a⟩
def a_laws_toVrowS : List (Nat × LoopAnn) := [(0, ⟨⟨[(4, false, [.dat (.int .i64)])], [(265216, .keep cVrow true)]⟩,
    ⟨[], [(265216, .keep cVrow true)]⟩, none⟩)]
theorem e_laws_toVrowS : fnDen ⟨tis, fns_67, [], false⟩ a_laws_toVrowS Try.f43 (codeOf Try.f43) [.val false (.one (.sl cVrow)) false] [.val false (.one (.sl cVrow)) true] = fun a => laws_toVrowS a := by kernel_rfl
theorem m_laws_toVrowS : Meets Try.prog 43 F_laws_toVrowS := by
  have h := meets_of (ann := a_laws_toVrowS) (ps := [.val false (.one (.sl cVrow)) false]) (rs := [.val false (.one (.sl cVrow)) true]) g_67 mixed Try.func43 (by kernel_rfl) (by kernel_rfl : Try.f43.body = some (codeOf Try.f43))
  rw [e_laws_toVrowS] at h
  exact h
noncomputable def fns_43 : List (FuncId × Fn) := (43, F_laws_toVrowS) :: fns_67
theorem g_43 : Good Try.prog ⟨tis, fns_43, [], false⟩ := g_67.cons m_laws_toVrowS
noncomputable def laws_toIntS_l0 (a0 : List Int) (i4 : Int) (l : List Int) : Option ((Int × List Int) ⊕ (List Int)) :=
  cond (decide (i4 < (a0.length : Int)))
    ((at? a0 i4).bind fun x18 =>
    (ix l.length i4).bind fun j20 =>
    (l[j20]?).bind fun x =>
    some (.inl (w64 (i4 + 1), l.set j20 x18)))
    (some (.inr l))
noncomputable def laws_toIntS (a0 : List Int) : Option (List Int) :=
  (mkLen (a0.length : Int)).bind fun n =>
  (loop (fun z => laws_toIntS_l0 a0 z.1 z.2) (0, List.replicate n (0 : Int))).bind fun d =>
  some d
noncomputable def F_laws_toIntS : Fn := ⟨[.val false (.one (.sl (.one (.int .i64)))) false], [.val false (.one (.sl (.one (.int .i64)))) true], fun a => laws_toIntS a⟩
def a_laws_toIntS : List (Nat × LoopAnn) := [(0, ⟨⟨[(4, false, [.dat (.int .i64)])], [(265216, .keep (.one (.int .i64)) true)]⟩,
    ⟨[], [(265216, .keep (.one (.int .i64)) true)]⟩, none⟩)]
theorem e_laws_toIntS : fnDen ⟨tis, fns_43, [], false⟩ a_laws_toIntS Try.f44 (codeOf Try.f44) [.val false (.one (.sl (.one (.int .i64)))) false] [.val false (.one (.sl (.one (.int .i64)))) true] = fun a => laws_toIntS a := by kernel_rfl
theorem m_laws_toIntS : Meets Try.prog 44 F_laws_toIntS := by
  have h := meets_of (ann := a_laws_toIntS) (ps := [.val false (.one (.sl (.one (.int .i64)))) false]) (rs := [.val false (.one (.sl (.one (.int .i64)))) true]) g_43 mixed Try.func44 (by kernel_rfl) (by kernel_rfl : Try.f44.body = some (codeOf Try.f44))
  rw [e_laws_toIntS] at h
  exact h
noncomputable def fns_44 : List (FuncId × Fn) := (44, F_laws_toIntS) :: fns_43
theorem g_44 : Good Try.prog ⟨tis, fns_44, [], false⟩ := g_43.cons m_laws_toIntS
noncomputable def laws_toVtab (a0 : Vtab) : Option Vtab :=
  (laws_toVrowS a0.1).bind fun t6 =>
  (laws_toIntS a0.2).bind fun t10 =>
  some (t6, t10)
noncomputable def F_laws_toVtab : Fn := ⟨[.val true cVtab false], [.val true cVtab true], fun a => laws_toVtab a⟩
def a_laws_toVtab : List (Nat × LoopAnn) := []
theorem e_laws_toVtab : fnDen ⟨tis, fns_44, [], false⟩ a_laws_toVtab Try.f27 (codeOf Try.f27) [.val true cVtab false] [.val true cVtab true] = fun a => laws_toVtab a := by kernel_rfl
theorem m_laws_toVtab : Meets Try.prog 27 F_laws_toVtab := by
  have h := meets_of (ann := a_laws_toVtab) (ps := [.val true cVtab false]) (rs := [.val true cVtab true]) g_44 mixed Try.func27 (by kernel_rfl) (by kernel_rfl : Try.f27.body = some (codeOf Try.f27))
  rw [e_laws_toVtab] at h
  exact h
noncomputable def fns_27 : List (FuncId × Fn) := (27, F_laws_toVtab) :: fns_44
theorem g_27 : Good Try.prog ⟨tis, fns_27, [], false⟩ := g_44.cons m_laws_toVtab
noncomputable def laws_toBridge (a0 : Bridge) : Option Bridge :=
  (laws_toPtS a0.2.2.1).bind fun t12 =>
  (laws_toFentS a0.2.2.2.1).bind fun t16 =>
  (laws_toVtab (a0.2.2.2.2.1, a0.2.2.2.2.2.1)).bind fun t20 =>
  some (a0.1, a0.2.1, t12, t16, t20.1, t20.2, a0.2.2.2.2.2.2.1, a0.2.2.2.2.2.2.2.1, a0.2.2.2.2.2.2.2.2.1, a0.2.2.2.2.2.2.2.2.2.1, a0.2.2.2.2.2.2.2.2.2.2)
noncomputable def F_laws_toBridge : Fn := ⟨[.val true cBridge false], [.val true cBridge true], fun a => laws_toBridge a⟩
def a_laws_toBridge : List (Nat × LoopAnn) := []
theorem e_laws_toBridge : fnDen ⟨tis, fns_27, [], false⟩ a_laws_toBridge Try.f12 (codeOf Try.f12) [.val true cBridge false] [.val true cBridge true] = fun a => laws_toBridge a := by kernel_rfl
theorem m_laws_toBridge : Meets Try.prog 12 F_laws_toBridge := by
  have h := meets_of (ann := a_laws_toBridge) (ps := [.val true cBridge false]) (rs := [.val true cBridge true]) g_27 mixed Try.func12 (by kernel_rfl) (by kernel_rfl : Try.f12.body = some (codeOf Try.f12))
  rw [e_laws_toBridge] at h
  exact h
noncomputable def fns_12 : List (FuncId × Fn) := (12, F_laws_toBridge) :: fns_27
theorem g_12 : Good Try.prog ⟨tis, fns_12, [], false⟩ := g_27.cons m_laws_toBridge
noncomputable def laws_toByteS_l0 (a0 : List Int) (i4 : Int) (l : List Int) : Option ((Int × List Int) ⊕ (List Int)) :=
  cond (decide (i4 < (a0.length : Int)))
    ((at? a0 i4).bind fun x18 =>
    (ix l.length i4).bind fun j20 =>
    (l[j20]?).bind fun x =>
    some (.inl (w64 (i4 + 1), l.set j20 x18)))
    (some (.inr l))
noncomputable def laws_toByteS (a0 : List Int) : Option (List Int) :=
  (mkLen (a0.length : Int)).bind fun n =>
  (loop (fun z => laws_toByteS_l0 a0 z.1 z.2) (0, List.replicate n (0 : Int))).bind fun d =>
  some d
noncomputable def F_laws_toByteS : Fn := ⟨[.val false (.one (.sl (.one (.int .u8)))) false], [.val false (.one (.sl (.one (.int .u8)))) true], fun a => laws_toByteS a⟩
def a_laws_toByteS : List (Nat × LoopAnn) := [(0, ⟨⟨[(4, false, [.dat (.int .i64)])], [(265216, .keep (.one (.int .u8)) true)]⟩,
    ⟨[], [(265216, .keep (.one (.int .u8)) true)]⟩, none⟩)]
theorem e_laws_toByteS : fnDen ⟨tis, fns_12, [], false⟩ a_laws_toByteS Try.f45 (codeOf Try.f45) [.val false (.one (.sl (.one (.int .u8)))) false] [.val false (.one (.sl (.one (.int .u8)))) true] = fun a => laws_toByteS a := by kernel_rfl
theorem m_laws_toByteS : Meets Try.prog 45 F_laws_toByteS := by
  have h := meets_of (ann := a_laws_toByteS) (ps := [.val false (.one (.sl (.one (.int .u8)))) false]) (rs := [.val false (.one (.sl (.one (.int .u8)))) true]) g_12 mixed Try.func45 (by kernel_rfl) (by kernel_rfl : Try.f45.body = some (codeOf Try.f45))
  rw [e_laws_toByteS] at h
  exact h
noncomputable def fns_45 : List (FuncId × Fn) := (45, F_laws_toByteS) :: fns_12
theorem g_45 : Good Try.prog ⟨tis, fns_45, [], false⟩ := g_12.cons m_laws_toByteS
noncomputable def laws_toVal (a0 : Val) : Option Val :=
  (laws_toIntS a0.2.2.2).bind fun t15 =>
  some (a0.1, a0.2.1, a0.2.2.1, t15)
noncomputable def F_laws_toVal : Fn := ⟨[.val true cVal false], [.val true cVal true], fun a => laws_toVal a⟩
def a_laws_toVal : List (Nat × LoopAnn) := []
theorem e_laws_toVal : fnDen ⟨tis, fns_45, [], false⟩ a_laws_toVal Try.f92 (codeOf Try.f92) [.val true cVal false] [.val true cVal true] = fun a => laws_toVal a := by kernel_rfl
theorem m_laws_toVal : Meets Try.prog 92 F_laws_toVal := by
  have h := meets_of (ann := a_laws_toVal) (ps := [.val true cVal false]) (rs := [.val true cVal true]) g_45 mixed Try.func92 (by kernel_rfl) (by kernel_rfl : Try.f92.body = some (codeOf Try.f92))
  rw [e_laws_toVal] at h
  exact h
noncomputable def fns_92 : List (FuncId × Fn) := (92, F_laws_toVal) :: fns_45
theorem g_92 : Good Try.prog ⟨tis, fns_92, [], false⟩ := g_45.cons m_laws_toVal
noncomputable def laws_toBind (a0 : Bind) : Option Bind :=
  (laws_toIntS a0.1).bind fun t6 =>
  (laws_toVal a0.2).bind fun t10 =>
  some (t6, t10.1, t10.2.1, t10.2.2.1, t10.2.2.2)
noncomputable def F_laws_toBind : Fn := ⟨[.val true cBind false], [.val true cBind true], fun a => laws_toBind a⟩
def a_laws_toBind : List (Nat × LoopAnn) := []
theorem e_laws_toBind : fnDen ⟨tis, fns_92, [], false⟩ a_laws_toBind Try.f79 (codeOf Try.f79) [.val true cBind false] [.val true cBind true] = fun a => laws_toBind a := by kernel_rfl
theorem m_laws_toBind : Meets Try.prog 79 F_laws_toBind := by
  have h := meets_of (ann := a_laws_toBind) (ps := [.val true cBind false]) (rs := [.val true cBind true]) g_92 mixed Try.func79 (by kernel_rfl) (by kernel_rfl : Try.f79.body = some (codeOf Try.f79))
  rw [e_laws_toBind] at h
  exact h
noncomputable def fns_79 : List (FuncId × Fn) := (79, F_laws_toBind) :: fns_92
theorem g_79 : Good Try.prog ⟨tis, fns_79, [], false⟩ := g_92.cons m_laws_toBind
noncomputable def laws_toBindS_l0 (a0 : List Bind) (i4 : Int) (l : List Bind) : Option ((Int × List Bind) ⊕ (List Bind)) :=
  cond (decide (i4 < (a0.length : Int)))
    ((at? a0 i4).bind fun x18 =>
    (laws_toBind x18).bind fun t20 =>
    (ix l.length i4).bind fun j21 =>
    (l[j21]?).bind fun x =>
    some (.inl (w64 (i4 + 1), l.set j21 t20)))
    (some (.inr l))
noncomputable def laws_toBindS (a0 : List Bind) : Option (List Bind) :=
  (mkLen (a0.length : Int)).bind fun n =>
  (loop (fun z => laws_toBindS_l0 a0 z.1 z.2) (0, List.replicate n (([], 0, 0, [], []) : Bind))).bind fun d =>
  some d
noncomputable def F_laws_toBindS : Fn := ⟨[.val false (.one (.sl cBind)) false], [.val false (.one (.sl cBind)) true], fun a => laws_toBindS a⟩
def a_laws_toBindS : List (Nat × LoopAnn) := [(0, ⟨⟨[(4, false, [.dat (.int .i64)])], [(265216, .keep cBind true)]⟩,
    ⟨[], [(265216, .keep cBind true)]⟩, none⟩)]
theorem e_laws_toBindS : fnDen ⟨tis, fns_79, [], false⟩ a_laws_toBindS Try.f68 (codeOf Try.f68) [.val false (.one (.sl cBind)) false] [.val false (.one (.sl cBind)) true] = fun a => laws_toBindS a := by kernel_rfl
theorem m_laws_toBindS : Meets Try.prog 68 F_laws_toBindS := by
  have h := meets_of (ann := a_laws_toBindS) (ps := [.val false (.one (.sl cBind)) false]) (rs := [.val false (.one (.sl cBind)) true]) g_79 mixed Try.func68 (by kernel_rfl) (by kernel_rfl : Try.f68.body = some (codeOf Try.f68))
  rw [e_laws_toBindS] at h
  exact h
noncomputable def fns_68 : List (FuncId × Fn) := (68, F_laws_toBindS) :: fns_79
theorem g_68 : Good Try.prog ⟨tis, fns_68, [], false⟩ := g_79.cons m_laws_toBindS
noncomputable def laws_toPdu (a0 : Pdu) : Option Pdu :=
  (laws_toBindS a0.2.2.2.2).bind fun t18 =>
  some (a0.1, a0.2.1, a0.2.2.1, a0.2.2.2.1, t18)
noncomputable def F_laws_toPdu : Fn := ⟨[.val true cPdu false], [.val true cPdu true], fun a => laws_toPdu a⟩
def a_laws_toPdu : List (Nat × LoopAnn) := []
theorem e_laws_toPdu : fnDen ⟨tis, fns_68, [], false⟩ a_laws_toPdu Try.f46 (codeOf Try.f46) [.val true cPdu false] [.val true cPdu true] = fun a => laws_toPdu a := by kernel_rfl
theorem m_laws_toPdu : Meets Try.prog 46 F_laws_toPdu := by
  have h := meets_of (ann := a_laws_toPdu) (ps := [.val true cPdu false]) (rs := [.val true cPdu true]) g_68 mixed Try.func46 (by kernel_rfl) (by kernel_rfl : Try.f46.body = some (codeOf Try.f46))
  rw [e_laws_toPdu] at h
  exact h
noncomputable def fns_46 : List (FuncId × Fn) := (46, F_laws_toPdu) :: fns_68
theorem g_46 : Good Try.prog ⟨tis, fns_46, [], false⟩ := g_68.cons m_laws_toPdu
noncomputable def laws_toJob (a0 : Job) : Option Job :=
  (laws_toByteS a0.2.1).bind fun t9 =>
  (laws_toPdu (a0.2.2.2.1, a0.2.2.2.2.1, a0.2.2.2.2.2.1, a0.2.2.2.2.2.2.1, a0.2.2.2.2.2.2.2.1)).bind fun t16 =>
  (laws_toBridge (a0.2.2.2.2.2.2.2.2.1, a0.2.2.2.2.2.2.2.2.2.1, a0.2.2.2.2.2.2.2.2.2.2.1, a0.2.2.2.2.2.2.2.2.2.2.2.1, a0.2.2.2.2.2.2.2.2.2.2.2.2.1, a0.2.2.2.2.2.2.2.2.2.2.2.2.2.1, a0.2.2.2.2.2.2.2.2.2.2.2.2.2.2.1, a0.2.2.2.2.2.2.2.2.2.2.2.2.2.2.2.1, a0.2.2.2.2.2.2.2.2.2.2.2.2.2.2.2.2.1, a0.2.2.2.2.2.2.2.2.2.2.2.2.2.2.2.2.2.1, a0.2.2.2.2.2.2.2.2.2.2.2.2.2.2.2.2.2.2.1)).bind fun t20 =>
  some (a0.1, t9, a0.2.2.1, t16.1, t16.2.1, t16.2.2.1, t16.2.2.2.1, t16.2.2.2.2, t20.1, t20.2.1, t20.2.2.1, t20.2.2.2.1, t20.2.2.2.2.1, t20.2.2.2.2.2.1, t20.2.2.2.2.2.2.1, t20.2.2.2.2.2.2.2.1, t20.2.2.2.2.2.2.2.2.1, t20.2.2.2.2.2.2.2.2.2.1, t20.2.2.2.2.2.2.2.2.2.2, a0.2.2.2.2.2.2.2.2.2.2.2.2.2.2.2.2.2.2.2.1, a0.2.2.2.2.2.2.2.2.2.2.2.2.2.2.2.2.2.2.2.2)
noncomputable def F_laws_toJob : Fn := ⟨[.val true cJob false], [.val true cJob true], fun a => laws_toJob a⟩
def a_laws_toJob : List (Nat × LoopAnn) := []
theorem e_laws_toJob : fnDen ⟨tis, fns_46, [], false⟩ a_laws_toJob Try.f28 (codeOf Try.f28) [.val true cJob false] [.val true cJob true] = fun a => laws_toJob a := by kernel_rfl
theorem m_laws_toJob : Meets Try.prog 28 F_laws_toJob := by
  have h := meets_of (ann := a_laws_toJob) (ps := [.val true cJob false]) (rs := [.val true cJob true]) g_46 mixed Try.func28 (by kernel_rfl) (by kernel_rfl : Try.f28.body = some (codeOf Try.f28))
  rw [e_laws_toJob] at h
  exact h
noncomputable def fns_28 : List (FuncId × Fn) := (28, F_laws_toJob) :: fns_46
theorem g_28 : Good Try.prog ⟨tis, fns_28, [], false⟩ := g_46.cons m_laws_toJob
noncomputable def laws_toJobS_l0 (a0 : List Job) (i4 : Int) (l : List Job) : Option ((Int × List Job) ⊕ (List Job)) :=
  cond (decide (i4 < (a0.length : Int)))
    ((at? a0 i4).bind fun x18 =>
    (laws_toJob x18).bind fun t20 =>
    (ix l.length i4).bind fun j21 =>
    (l[j21]?).bind fun x =>
    some (.inl (w64 (i4 + 1), l.set j21 t20)))
    (some (.inr l))
noncomputable def laws_toJobS (a0 : List Job) : Option (List Job) :=
  (mkLen (a0.length : Int)).bind fun n =>
  (loop (fun z => laws_toJobS_l0 a0 z.1 z.2) (0, List.replicate n ((0, [], 0, 0, 0, 0, 0, [], 0, [], [], [], [], [], 0, 0, 0, 0, 0, 0, 0) : Job))).bind fun d =>
  some d
noncomputable def F_laws_toJobS : Fn := ⟨[.val false (.one (.sl cJob)) false], [.val false (.one (.sl cJob)) true], fun a => laws_toJobS a⟩
def a_laws_toJobS : List (Nat × LoopAnn) := [(0, ⟨⟨[(4, false, [.dat (.int .i64)])], [(265216, .keep cJob true)]⟩,
    ⟨[], [(265216, .keep cJob true)]⟩, none⟩)]
theorem e_laws_toJobS : fnDen ⟨tis, fns_28, [], false⟩ a_laws_toJobS Try.f13 (codeOf Try.f13) [.val false (.one (.sl cJob)) false] [.val false (.one (.sl cJob)) true] = fun a => laws_toJobS a := by kernel_rfl
theorem m_laws_toJobS : Meets Try.prog 13 F_laws_toJobS := by
  have h := meets_of (ann := a_laws_toJobS) (ps := [.val false (.one (.sl cJob)) false]) (rs := [.val false (.one (.sl cJob)) true]) g_28 mixed Try.func13 (by kernel_rfl) (by kernel_rfl : Try.f13.body = some (codeOf Try.f13))
  rw [e_laws_toJobS] at h
  exact h
noncomputable def fns_13 : List (FuncId × Fn) := (13, F_laws_toJobS) :: fns_28
theorem g_13 : Good Try.prog ⟨tis, fns_13, [], false⟩ := g_28.cons m_laws_toJobS
noncomputable def laws_toAgent (a0 : Agent) : Option Agent :=
  (laws_toBridge (a0.1, a0.2.1, a0.2.2.1, a0.2.2.2.1, a0.2.2.2.2.1, a0.2.2.2.2.2.1, a0.2.2.2.2.2.2.1, a0.2.2.2.2.2.2.2.1, a0.2.2.2.2.2.2.2.2.1, a0.2.2.2.2.2.2.2.2.2.1, a0.2.2.2.2.2.2.2.2.2.2.1)).bind fun t6 =>
  (laws_toJobS a0.2.2.2.2.2.2.2.2.2.2.2.2.1).bind fun t13 =>
  some (t6.1, t6.2.1, t6.2.2.1, t6.2.2.2.1, t6.2.2.2.2.1, t6.2.2.2.2.2.1, t6.2.2.2.2.2.2.1, t6.2.2.2.2.2.2.2.1, t6.2.2.2.2.2.2.2.2.1, t6.2.2.2.2.2.2.2.2.2.1, t6.2.2.2.2.2.2.2.2.2.2, a0.2.2.2.2.2.2.2.2.2.2.2.1, t13, a0.2.2.2.2.2.2.2.2.2.2.2.2.2.1, a0.2.2.2.2.2.2.2.2.2.2.2.2.2.2)
noncomputable def F_laws_toAgent : Fn := ⟨[.val true cAgent false], [.val true cAgent true], fun a => laws_toAgent a⟩
def a_laws_toAgent : List (Nat × LoopAnn) := []
theorem e_laws_toAgent : fnDen ⟨tis, fns_13, [], false⟩ a_laws_toAgent Try.f6 (codeOf Try.f6) [.val true cAgent false] [.val true cAgent true] = fun a => laws_toAgent a := by kernel_rfl
theorem m_laws_toAgent : Meets Try.prog 6 F_laws_toAgent := by
  have h := meets_of (ann := a_laws_toAgent) (ps := [.val true cAgent false]) (rs := [.val true cAgent true]) g_13 mixed Try.func6 (by kernel_rfl) (by kernel_rfl : Try.f6.body = some (codeOf Try.f6))
  rw [e_laws_toAgent] at h
  exact h
noncomputable def fns_6 : List (FuncId × Fn) := (6, F_laws_toAgent) :: fns_13
theorem g_6 : Good Try.prog ⟨tis, fns_6, [], false⟩ := g_13.cons m_laws_toAgent
noncomputable def impl_copyBytes (b0 : List Int) : Option (List Int) :=
  (app [] b0).bind fun zs4 =>
  some zs4
noncomputable def F_impl_copyBytes : Fn := ⟨[.val false (.one (.sl (.one (.int .u8)))) false], [.val false (.one (.sl (.one (.int .u8)))) true], fun a => impl_copyBytes a⟩
def a_impl_copyBytes : List (Nat × LoopAnn) := []
theorem e_impl_copyBytes : fnDen ⟨tis, fns_6, [], false⟩ a_impl_copyBytes Try.f69 (codeOf Try.f69) [.val false (.one (.sl (.one (.int .u8)))) false] [.val false (.one (.sl (.one (.int .u8)))) true] = fun a => impl_copyBytes a := by kernel_rfl
theorem m_impl_copyBytes : Meets Try.prog 69 F_impl_copyBytes := by
  have h := meets_of (ann := a_impl_copyBytes) (ps := [.val false (.one (.sl (.one (.int .u8)))) false]) (rs := [.val false (.one (.sl (.one (.int .u8)))) true]) g_6 mixed Try.func69 (by kernel_rfl) (by kernel_rfl : Try.f69.body = some (codeOf Try.f69))
  rw [e_impl_copyBytes] at h
  exact h
noncomputable def fns_69 : List (FuncId × Fn) := (69, F_impl_copyBytes) :: fns_6
theorem g_69 : Good Try.prog ⟨tis, fns_69, [], false⟩ := g_6.cons m_impl_copyBytes
noncomputable def impl_GetTlv (p0 : List Int) (i1 : Int) : Option (Int × (List Int) × Int × Bool) :=
  (cond (decide (i1 < 0)) (some true) (some (decide (i1 > (w64 ((p0.length : Int) - 2)))))).bind fun t18 =>
  cond t18
    (some (0, [], 0, false))
    ((at? p0 (w64 (i1 + 1))).bind fun x22 =>
    cond (decide ((w64 (x22)) ≥ 128))
      ((cond ((w64 (x22)) != 129) (some true) (some (decide ((w64 (i1 + 2)) ≥ (p0.length : Int))))).bind fun t36 =>
      (cond t36
        (some true)
        ((at? p0 (w64 (i1 + 2))).bind fun x40 =>
        some (decide (x40 < 128)))).bind fun t43 =>
      cond t43
        (some (0, [], 0, false))
        ((at? p0 (w64 (i1 + 2))).bind fun x46 =>
        (cond (decide ((w64 (x46)) > 250))
          (some true)
          (some (decide ((w64 (x46)) > (w64 ((p0.length : Int) - (w64 ((w64 (i1 + 2)) + 1)))))))).bind fun t60 =>
        cond t60
          (some (0, [], 0, false))
          ((at? p0 i1).bind fun x63 =>
          (cut p0 (w64 ((w64 (i1 + 2)) + 1)) (w64 ((w64 ((w64 (i1 + 2)) + 1)) + (w64 (x46))))).bind fun t71 =>
          (impl_copyBytes t71).bind fun t72 =>
          let t6 := w64 ((w64 ((w64 (i1 + 2)) + 1)) + (w64 (x46)))
          some (w64 (x63), t72, t6, true))))
      ((cond (decide ((w64 (x22)) > 250))
        (some true)
        (some (decide ((w64 (x22)) > (w64 ((p0.length : Int) - (w64 (i1 + 2)))))))).bind fun t60_1 =>
      cond t60_1
        (some (0, [], 0, false))
        ((at? p0 i1).bind fun x63_1 =>
        (cut p0 (w64 (i1 + 2)) (w64 ((w64 (i1 + 2)) + (w64 (x22))))).bind fun t71_1 =>
        (impl_copyBytes t71_1).bind fun t72_1 =>
        let t6_1 := w64 ((w64 (i1 + 2)) + (w64 (x22)))
        some (w64 (x63_1), t72_1, t6_1, true))))
noncomputable def F_impl_GetTlv : Fn := ⟨[.val false (.one (.sl (.one (.int .u8)))) false, .val false (.one (.int .i64)) false], [.val false (.one (.int .i64)) true, .val false (.one (.sl (.one (.int .u8)))) true, .val false (.one (.int .i64)) true, .val false (.one .bool) true], fun a => impl_GetTlv a.1 a.2⟩
def a_impl_GetTlv : List (Nat × LoopAnn) := []
theorem e_impl_GetTlv : fnDen ⟨tis, fns_69, [], false⟩ a_impl_GetTlv Try.f47 (codeOf Try.f47) [.val false (.one (.sl (.one (.int .u8)))) false, .val false (.one (.int .i64)) false] [.val false (.one (.int .i64)) true, .val false (.one (.sl (.one (.int .u8)))) true, .val false (.one (.int .i64)) true, .val false (.one .bool) true] = fun a => impl_GetTlv a.1 a.2 := by kernel_rfl
theorem m_impl_GetTlv : Meets Try.prog 47 F_impl_GetTlv := by
  have h := meets_of (ann := a_impl_GetTlv) (ps := [.val false (.one (.sl (.one (.int .u8)))) false, .val false (.one (.int .i64)) false]) (rs := [.val false (.one (.int .i64)) true, .val false (.one (.sl (.one (.int .u8)))) true, .val false (.one (.int .i64)) true, .val false (.one .bool) true]) g_69 mixed Try.func47 (by kernel_rfl) (by kernel_rfl : Try.f47.body = some (codeOf Try.f47))
  rw [e_impl_GetTlv] at h
  exact h
noncomputable def fns_47 : List (FuncId × Fn) := (47, F_impl_GetTlv) :: fns_69
theorem g_47 : Good Try.prog ⟨tis, fns_47, [], false⟩ := g_69.cons m_impl_GetTlv
noncomputable def impl_parts_part (r0 : L4Reader) (tag1 : Int) : Option (L4Reader × List Int) :=
  (impl_GetTlv r0.1 r0.2.1).bind fun t18 =>
  (cond r0.2.2 (some true) (some (!t18.2.2.2))).bind fun t30 =>
  (cond t30 (some true) (some (t18.1 != tag1))).bind fun t35 =>
  cond t35
    (some ((r0.1, r0.2.1, true), []))
    (some ((r0.1, t18.2.2.1, r0.2.2), t18.2.1))
noncomputable def F_impl_parts_part : Fn := ⟨[.ptr cL4Reader false, .val false (.one (.int .i64)) false], [.val false (.one (.sl (.one (.int .u8)))) true], fun a => impl_parts_part a.1 a.2⟩
def a_impl_parts_part : List (Nat × LoopAnn) := []
theorem e_impl_parts_part : fnDen ⟨tis, fns_47, [], false⟩ a_impl_parts_part Try.f49 (codeOf Try.f49) [.ptr cL4Reader false, .val false (.one (.int .i64)) false] [.val false (.one (.sl (.one (.int .u8)))) true] = fun a => impl_parts_part a.1 a.2 := by kernel_rfl
theorem m_impl_parts_part : Meets Try.prog 49 F_impl_parts_part := by
  have h := meets_of (ann := a_impl_parts_part) (ps := [.ptr cL4Reader false, .val false (.one (.int .i64)) false]) (rs := [.val false (.one (.sl (.one (.int .u8)))) true]) g_47 mixed Try.func49 (by kernel_rfl) (by kernel_rfl : Try.f49.body = some (codeOf Try.f49))
  rw [e_impl_parts_part] at h
  exact h
noncomputable def fns_49 : List (FuncId × Fn) := (49, F_impl_parts_part) :: fns_47
theorem g_49 : Good Try.prog ⟨tis, fns_49, [], false⟩ := g_47.cons m_impl_parts_part
noncomputable def impl_in (n0 : Int) (low1 : Int) (high2 : Int) : Option Bool :=
  (cond (decide (n0 ≥ low1)) (some (decide (n0 ≤ high2))) (some false)).bind fun t14 =>
  some t14
noncomputable def F_impl_in : Fn := ⟨[.val false (.one (.int .i64)) false, .val false (.one (.int .i64)) false, .val false (.one (.int .i64)) false], [.val false (.one .bool) true], fun a => impl_in a.1 a.2.1 a.2.2⟩
def a_impl_in : List (Nat × LoopAnn) := []
theorem e_impl_in : fnDen ⟨tis, fns_49, [], false⟩ a_impl_in Try.f80 (codeOf Try.f80) [.val false (.one (.int .i64)) false, .val false (.one (.int .i64)) false, .val false (.one (.int .i64)) false] [.val false (.one .bool) true] = fun a => impl_in a.1 a.2.1 a.2.2 := by kernel_rfl
theorem m_impl_in : Meets Try.prog 80 F_impl_in := by
  have h := meets_of (ann := a_impl_in) (ps := [.val false (.one (.int .i64)) false, .val false (.one (.int .i64)) false, .val false (.one (.int .i64)) false]) (rs := [.val false (.one .bool) true]) g_49 mixed Try.func80 (by kernel_rfl) (by kernel_rfl : Try.f80.body = some (codeOf Try.f80))
  rw [e_impl_in] at h
  exact h
noncomputable def fns_80 : List (FuncId × Fn) := (80, F_impl_in) :: fns_49
theorem g_80 : Good Try.prog ⟨tis, fns_80, [], false⟩ := g_49.cons m_impl_in
noncomputable def impl_PutInt_l0 (n0_1 : Int) (k3 : Int) : Option (Int ⊕ Int) :=
  (cond (decide (k3 < 4))
    ((shl .i64 (-1) (w64 ((w64 (8 * k3)) - 1))).bind fun t16 =>
    (shl .i64 1 (w64 ((w64 (8 * k3)) - 1))).bind fun t20 =>
    (impl_in n0_1 t16 (w64 (t20 - 1))).bind fun t22 =>
    some (!t22))
    (some false)).bind fun t24 =>
  cond t24 (some (.inl (w64 (k3 + 1)))) (some (.inr k3))
noncomputable def impl_PutInt_l2 (n0_1 : Int) (i5 : Int) (out4 : List Int) : Option ((Int × List Int) ⊕ (List Int)) :=
  cond (decide (i5 ≥ 0))
    ((shr .i64 n0_1 (w64 (8 * i5))).bind fun t37 =>
    (app out4 [IntKind.u8.wrap (t37)]).bind fun zs40 =>
    some (.inl (w64 (i5 - 1), zs40)))
    (some (.inr out4))
noncomputable def impl_PutInt (n0 : Int) : Option (List Int) :=
  let n0_1 := max2 (-2147483648) (min2 n0 2147483647)
  (loop (fun z => impl_PutInt_l0 n0_1 z) 1).bind fun d =>
  (loop (fun z => impl_PutInt_l2 n0_1 z.1 z.2) (w64 (d - 1), [])).bind fun d_1 =>
  some d_1
noncomputable def F_impl_PutInt : Fn := ⟨[.val false (.one (.int .i64)) false], [.val false (.one (.sl (.one (.int .u8)))) true], fun a => impl_PutInt a⟩
def a_impl_PutInt : List (Nat × LoopAnn) := [(0, ⟨⟨[(3, false, [.dat (.int .i64)]), (12, false, [.undef]), (13, false, [.undef]), (14, false, [.undef]), (15, false, [.undef]), (16, false, [.undef]), (17, false, [.undef]), (18, false, [.undef]), (19, false, [.undef]), (20, false, [.undef]), (21, false, [.undef]), (22, false, [.undef]), (23, false, [.undef])], []⟩,
    ⟨[(3, false, [.dat (.int .i64)])], []⟩, none⟩),
  (2, ⟨⟨[(4, false, [.own 1000002000]), (5, false, [.dat (.int .i64)])], [(1000002000, .root (.one (.int .u8)) true)]⟩,
    ⟨[(4, false, [.own 1000002300])], [(1000002300, .root (.one (.int .u8)) true)]⟩, none⟩)]
theorem e_impl_PutInt : fnDen ⟨tis, fns_80, [], false⟩ a_impl_PutInt Try.f81 (codeOf Try.f81) [.val false (.one (.int .i64)) false] [.val false (.one (.sl (.one (.int .u8)))) true] = fun a => impl_PutInt a := by kernel_rfl
theorem m_impl_PutInt : Meets Try.prog 81 F_impl_PutInt := by
  have h := meets_of (ann := a_impl_PutInt) (ps := [.val false (.one (.int .i64)) false]) (rs := [.val false (.one (.sl (.one (.int .u8)))) true]) g_80 mixed Try.func81 (by kernel_rfl) (by kernel_rfl : Try.f81.body = some (codeOf Try.f81))
  rw [e_impl_PutInt] at h
  exact h
noncomputable def fns_81 : List (FuncId × Fn) := (81, F_impl_PutInt) :: fns_80
theorem g_81 : Good Try.prog ⟨tis, fns_81, [], false⟩ := g_80.cons m_impl_PutInt
noncomputable def impl_GetInt_l0 (t17 : List Int) (n4_1 : Int) (t19 : Int) : Option ((Int × Int) ⊕ Int) :=
  cond (decide (t19 < (t17.length : Int)))
    ((at? t17 t19).bind fun x21 =>
    let n4_2 := bor .i64 (w64 (n4_1 * 2 ^ 8)) (w64 (x21))
    some (.inl (n4_2, w64 (t19 + 1))))
    (some (.inr n4_1))
noncomputable def impl_GetInt (b0 : List Int) : Option (Int × Bool) :=
  (impl_in (b0.length : Int) 1 4).bind fun t9 =>
  cond (!t9)
    (some (0, false))
    ((at? b0 0).bind fun x12 =>
    let n4 := w64 (IntKind.i8.wrap (x12))
    (cut b0 1 (b0.length : Int)).bind fun t17 =>
    (loop (fun z => impl_GetInt_l0 t17 z.1 z.2) (n4, 0)).bind fun d =>
    (impl_PutInt d).bind fun t30 =>
    cond ((t30.length : Int) != (b0.length : Int)) (some (0, false)) (some (d, true)))
noncomputable def F_impl_GetInt : Fn := ⟨[.val false (.one (.sl (.one (.int .u8)))) false], [.val false (.one (.int .i64)) true, .val false (.one .bool) true], fun a => impl_GetInt a⟩
def a_impl_GetInt : List (Nat × LoopAnn) := [(0, ⟨⟨[(4, false, [.dat (.int .i64)]), (19, false, [.dat (.int .i64)])], []⟩,
    ⟨[(4, false, [.dat (.int .i64)])], []⟩, none⟩)]
theorem e_impl_GetInt : fnDen ⟨tis, fns_81, [], false⟩ a_impl_GetInt Try.f70 (codeOf Try.f70) [.val false (.one (.sl (.one (.int .u8)))) false] [.val false (.one (.int .i64)) true, .val false (.one .bool) true] = fun a => impl_GetInt a := by kernel_rfl
theorem m_impl_GetInt : Meets Try.prog 70 F_impl_GetInt := by
  have h := meets_of (ann := a_impl_GetInt) (ps := [.val false (.one (.sl (.one (.int .u8)))) false]) (rs := [.val false (.one (.int .i64)) true, .val false (.one .bool) true]) g_81 mixed Try.func70 (by kernel_rfl) (by kernel_rfl : Try.f70.body = some (codeOf Try.f70))
  rw [e_impl_GetInt] at h
  exact h
noncomputable def fns_70 : List (FuncId × Fn) := (70, F_impl_GetInt) :: fns_81
theorem g_70 : Good Try.prog ⟨tis, fns_70, [], false⟩ := g_81.cons m_impl_GetInt
noncomputable def impl_parts_num (r0 : L4Reader) (tag1 : Int) : Option (L4Reader × Int) :=
  (impl_parts_part r0 tag1).bind fun t10 =>
  (impl_GetInt t10.2).bind fun t11 =>
  (cond t10.1.2.2 (some true) (some (!t11.2))).bind fun t22 =>
  some ((t10.1.1, t10.1.2.1, t22), t11.1)
noncomputable def F_impl_parts_num : Fn := ⟨[.ptr cL4Reader false, .val false (.one (.int .i64)) false], [.val false (.one (.int .i64)) true], fun a => impl_parts_num a.1 a.2⟩
def a_impl_parts_num : List (Nat × LoopAnn) := []
theorem e_impl_parts_num : fnDen ⟨tis, fns_70, [], false⟩ a_impl_parts_num Try.f48 (codeOf Try.f48) [.ptr cL4Reader false, .val false (.one (.int .i64)) false] [.val false (.one (.int .i64)) true] = fun a => impl_parts_num a.1 a.2 := by kernel_rfl
theorem m_impl_parts_num : Meets Try.prog 48 F_impl_parts_num := by
  have h := meets_of (ann := a_impl_parts_num) (ps := [.ptr cL4Reader false, .val false (.one (.int .i64)) false]) (rs := [.val false (.one (.int .i64)) true]) g_70 mixed Try.func48 (by kernel_rfl) (by kernel_rfl : Try.f48.body = some (codeOf Try.f48))
  rw [e_impl_parts_num] at h
  exact h
noncomputable def fns_48 : List (FuncId × Fn) := (48, F_impl_parts_num) :: fns_70
theorem g_48 : Good Try.prog ⟨tis, fns_48, [], false⟩ := g_70.cons m_impl_parts_num
noncomputable def impl_parts_done (r0 : L4Reader) : Option (L4Reader × Bool) :=
  (cond (!r0.2.2) (some (r0.2.1 == (r0.1.length : Int))) (some false)).bind fun t19 =>
  some (r0, t19)
noncomputable def F_impl_parts_done : Fn := ⟨[.ptr cL4Reader false], [.val false (.one .bool) true], fun a => impl_parts_done a⟩
def a_impl_parts_done : List (Nat × LoopAnn) := []
theorem e_impl_parts_done : fnDen ⟨tis, fns_48, [], false⟩ a_impl_parts_done Try.f71 (codeOf Try.f71) [.ptr cL4Reader false] [.val false (.one .bool) true] = fun a => impl_parts_done a := by kernel_rfl
theorem m_impl_parts_done : Meets Try.prog 71 F_impl_parts_done := by
  have h := meets_of (ann := a_impl_parts_done) (ps := [.ptr cL4Reader false]) (rs := [.val false (.one .bool) true]) g_48 mixed Try.func71 (by kernel_rfl) (by kernel_rfl : Try.f71.body = some (codeOf Try.f71))
  rw [e_impl_parts_done] at h
  exact h
noncomputable def fns_71 : List (FuncId × Fn) := (71, F_impl_parts_done) :: fns_48
theorem g_71 : Good Try.prog ⟨tis, fns_71, [], false⟩ := g_48.cons m_impl_parts_done
noncomputable def impl_OidOk_l0 (o0 : List Int) (t7 : Int) : Option (Int ⊕ (Unit ⊕ Bool)) :=
  cond (decide (t7 < (o0.length : Int)))
    ((at? o0 t7).bind fun x9 =>
    (impl_in x9 0 100000).bind fun t12 =>
    cond (!t12) (some (.inr (.inr false))) (some (.inl (w64 (t7 + 1)))))
    (some (.inr (.inl ())))
noncomputable def impl_OidOk (o0 : List Int) : Option Bool :=
  (loop (fun z => impl_OidOk_l0 o0 z) 0).bind (Sum.elim (fun d =>
    (impl_in (o0.length : Int) 1 10).bind fun t17 =>
    some t17) (fun r => some r))
noncomputable def F_impl_OidOk : Fn := ⟨[.val false (.one (.sl (.one (.int .i64)))) false], [.val false (.one .bool) true], fun a => impl_OidOk a⟩
def a_impl_OidOk : List (Nat × LoopAnn) := [(0, ⟨⟨[(7, false, [.dat (.int .i64)])], []⟩,
    ⟨[], []⟩, some ⟨[(2, false, [.dat .bool])], []⟩⟩)]
theorem e_impl_OidOk : fnDen ⟨tis, fns_71, [], false⟩ a_impl_OidOk Try.f94 (codeOf Try.f94) [.val false (.one (.sl (.one (.int .i64)))) false] [.val false (.one .bool) true] = fun a => impl_OidOk a := by kernel_rfl
theorem m_impl_OidOk : Meets Try.prog 94 F_impl_OidOk := by
  have h := meets_of (ann := a_impl_OidOk) (ps := [.val false (.one (.sl (.one (.int .i64)))) false]) (rs := [.val false (.one .bool) true]) g_71 mixed Try.func94 (by kernel_rfl) (by kernel_rfl : Try.f94.body = some (codeOf Try.f94))
  rw [e_impl_OidOk] at h
  exact h
noncomputable def fns_94 : List (FuncId × Fn) := (94, F_impl_OidOk) :: fns_71
theorem g_94 : Good Try.prog ⟨tis, fns_94, [], false⟩ := g_71.cons m_impl_OidOk
noncomputable def impl_PutOid_l2 (x14 : Int) (k6 : Int) : Option (Int ⊕ Int) :=
  (shr .i64 x14 (w64 (7 * k6))).bind fun t19 =>
  cond (decide (t19 > 127)) (some (.inl (w64 (k6 + 1)))) (some (.inr k6))
noncomputable def impl_PutOid_l4 (x14 : Int) (k6_2 : Int) (out3_1 : List Int) : Option ((Int × List Int) ⊕ (List Int)) :=
  cond (decide (k6_2 > 0))
    ((shr .i64 x14 (w64 (7 * k6_2))).bind fun t31 =>
    (app out3_1 [IntKind.u8.wrap (w64 ((band .i64 t31 127) + 128))]).bind fun zs36 =>
    some (.inl (w64 (k6_2 - 1), zs36)))
    (some (.inr out3_1))
noncomputable def impl_PutOid_l0 (o0 : List Int) (t12 : Int) (out3 : List Int) : Option ((Int × List Int) ⊕ (List Int)) :=
  cond (decide (t12 < (o0.length : Int)))
    ((at? o0 t12).bind fun x14 =>
    (loop (fun z => impl_PutOid_l2 x14 z) 0).bind fun d =>
    (loop (fun z => impl_PutOid_l4 x14 z.1 z.2) (d, out3)).bind fun d_1 =>
    (app d_1 [IntKind.u8.wrap (band .i64 x14 127)]).bind fun zs42 =>
    some (.inl (w64 (t12 + 1), zs42)))
    (some (.inr out3))
noncomputable def impl_PutOid (o0 : List Int) : Option (List Int) :=
  (impl_OidOk o0).bind fun t8 =>
  cond (!t8)
    (some [])
    ((loop (fun z => impl_PutOid_l0 o0 z.1 z.2) (0, [])).bind fun d_2 =>
    some d_2)
noncomputable def F_impl_PutOid : Fn := ⟨[.val false (.one (.sl (.one (.int .i64)))) false], [.val false (.one (.sl (.one (.int .u8)))) true], fun a => impl_PutOid a⟩
def a_impl_PutOid : List (Nat × LoopAnn) := [(0, ⟨⟨[(3, false, [.own 1000000000]), (12, false, [.dat (.int .i64)])], [(1000000000, .root (.one (.int .u8)) true)]⟩,
    ⟨[(3, false, [.own 1000000300])], [(1000000300, .root (.one (.int .u8)) true)]⟩, none⟩),
  (2, ⟨⟨[(6, false, [.dat (.int .i64)])], []⟩,
    ⟨[(6, false, [.dat (.int .i64)])], []⟩, none⟩),
  (4, ⟨⟨[(3, false, [.own 1000004000]), (6, false, [.dat (.int .i64)])], [(1000004000, .root (.one (.int .u8)) true)]⟩,
    ⟨[(3, false, [.own 1000004300])], [(1000004300, .root (.one (.int .u8)) true)]⟩, none⟩)]
theorem e_impl_PutOid : fnDen ⟨tis, fns_94, [], false⟩ a_impl_PutOid Try.f88 (codeOf Try.f88) [.val false (.one (.sl (.one (.int .i64)))) false] [.val false (.one (.sl (.one (.int .u8)))) true] = fun a => impl_PutOid a := by kernel_rfl
theorem m_impl_PutOid : Meets Try.prog 88 F_impl_PutOid := by
  have h := meets_of (ann := a_impl_PutOid) (ps := [.val false (.one (.sl (.one (.int .i64)))) false]) (rs := [.val false (.one (.sl (.one (.int .u8)))) true]) g_94 mixed Try.func88 (by kernel_rfl) (by kernel_rfl : Try.f88.body = some (codeOf Try.f88))
  rw [e_impl_PutOid] at h
  exact h
noncomputable def fns_88 : List (FuncId × Fn) := (88, F_impl_PutOid) :: fns_94
theorem g_88 : Good Try.prog ⟨tis, fns_88, [], false⟩ := g_94.cons m_impl_PutOid
noncomputable def impl_GetOid_l0 (b0 : List Int) (n5 : Int) (t11 : Int) (out4 : List Int) : Option ((Int × Int × List Int) ⊕ ((List Int) ⊕ (Bool × List Int))) :=
  cond (decide (t11 < (b0.length : Int)))
    ((at? b0 t11).bind fun x14 =>
    cond (decide (t11 ≥ 40))
      (some (.inr (.inr (false, []))))
      (let n5_1 := bor .i64 (w64 ((min2 n5 1048576) * 2 ^ 7)) (w64 (band .u8 x14 127))
      cond (decide (x14 < 128))
        ((app out4 [n5_1]).bind fun zs30 =>
        some (.inl (0, w64 (t11 + 1), zs30)))
        (some (.inl (n5_1, w64 (t11 + 1), out4)))))
    (some (.inr (.inl out4)))
noncomputable def impl_GetOid (b0 : List Int) : Option ((List Int) × Bool) :=
  (loop (fun z => impl_GetOid_l0 b0 z.1 z.2.1 z.2.2) (0, 0, [])).bind (Sum.elim (fun d =>
    (impl_PutOid d).bind fun t33 =>
    (cond ((t33.length : Int) == 0) (some true) (some (!((bytesOf t33) == (bytesOf b0))))).bind fun t43 =>
    cond t43 (some ([], false)) (some (d, true))) (fun r => some (r.2, r.1)))
noncomputable def F_impl_GetOid : Fn := ⟨[.val false (.one (.sl (.one (.int .u8)))) false], [.val false (.one (.sl (.one (.int .i64)))) true, .val false (.one .bool) true], fun a => impl_GetOid a⟩
def a_impl_GetOid : List (Nat × LoopAnn) := [(0, ⟨⟨[(4, false, [.own 1000000000]), (5, false, [.dat (.int .i64)]), (11, false, [.dat (.int .i64)])], [(1000000000, .root (.one (.int .i64)) true)]⟩,
    ⟨[(4, false, [.own 1000000300])], [(1000000300, .root (.one (.int .i64)) true)]⟩, some ⟨[(2, false, [.own 1000000600]), (3, false, [.dat .bool])], [(1000000600, .root (.one (.int .i64)) true)]⟩⟩)]
theorem e_impl_GetOid : fnDen ⟨tis, fns_88, [], false⟩ a_impl_GetOid Try.f82 (codeOf Try.f82) [.val false (.one (.sl (.one (.int .u8)))) false] [.val false (.one (.sl (.one (.int .i64)))) true, .val false (.one .bool) true] = fun a => impl_GetOid a := by kernel_rfl
theorem m_impl_GetOid : Meets Try.prog 82 F_impl_GetOid := by
  have h := meets_of (ann := a_impl_GetOid) (ps := [.val false (.one (.sl (.one (.int .u8)))) false]) (rs := [.val false (.one (.sl (.one (.int .i64)))) true, .val false (.one .bool) true]) g_88 mixed Try.func82 (by kernel_rfl) (by kernel_rfl : Try.f82.body = some (codeOf Try.f82))
  rw [e_impl_GetOid] at h
  exact h
noncomputable def fns_82 : List (FuncId × Fn) := (82, F_impl_GetOid) :: fns_88
theorem g_82 : Good Try.prog ⟨tis, fns_82, [], false⟩ := g_88.cons m_impl_GetOid
noncomputable def impl_isInt (n0 : Int) : Option Bool :=
  (impl_in n0 (-2147483648) 2147483647).bind fun t4 =>
  some t4
noncomputable def F_impl_isInt : Fn := ⟨[.val false (.one (.int .i64)) false], [.val false (.one .bool) true], fun a => impl_isInt a⟩
def a_impl_isInt : List (Nat × LoopAnn) := []
theorem e_impl_isInt : fnDen ⟨tis, fns_82, [], false⟩ a_impl_isInt Try.f95 (codeOf Try.f95) [.val false (.one (.int .i64)) false] [.val false (.one .bool) true] = fun a => impl_isInt a := by kernel_rfl
theorem m_impl_isInt : Meets Try.prog 95 F_impl_isInt := by
  have h := meets_of (ann := a_impl_isInt) (ps := [.val false (.one (.int .i64)) false]) (rs := [.val false (.one .bool) true]) g_82 mixed Try.func95 (by kernel_rfl) (by kernel_rfl : Try.f95.body = some (codeOf Try.f95))
  rw [e_impl_isInt] at h
  exact h
noncomputable def fns_95 : List (FuncId × Fn) := (95, F_impl_isInt) :: fns_82
theorem g_95 : Good Try.prog ⟨tis, fns_95, [], false⟩ := g_82.cons m_impl_isInt
noncomputable def impl_SameOid_l0 (a0 : List Int) (b1 : List Int) (t13 : Int) : Option (Int ⊕ (Unit ⊕ Bool)) :=
  cond (decide (t13 < (a0.length : Int)))
    ((at? a0 t13).bind fun x18 =>
    (at? b1 t13).bind fun x22 =>
    cond (x18 != x22) (some (.inr (.inr false))) (some (.inl (w64 (t13 + 1)))))
    (some (.inr (.inl ())))
noncomputable def impl_SameOid (a0 : List Int) (b1 : List Int) : Option Bool :=
  cond ((a0.length : Int) != (b1.length : Int))
    (some false)
    ((loop (fun z => impl_SameOid_l0 a0 b1 z) 0).bind (Sum.elim (fun d =>
      some true) (fun r => some r)))
noncomputable def F_impl_SameOid : Fn := ⟨[.val false (.one (.sl (.one (.int .i64)))) false, .val false (.one (.sl (.one (.int .i64)))) false], [.val false (.one .bool) true], fun a => impl_SameOid a.1 a.2⟩
def a_impl_SameOid : List (Nat × LoopAnn) := [(0, ⟨⟨[(13, false, [.dat (.int .i64)])], []⟩,
    ⟨[], []⟩, some ⟨[(4, false, [.dat .bool])], []⟩⟩)]
theorem e_impl_SameOid : fnDen ⟨tis, fns_95, [], false⟩ a_impl_SameOid Try.f98 (codeOf Try.f98) [.val false (.one (.sl (.one (.int .i64)))) false, .val false (.one (.sl (.one (.int .i64)))) false] [.val false (.one .bool) true] = fun a => impl_SameOid a.1 a.2 := by kernel_rfl
theorem m_impl_SameOid : Meets Try.prog 98 F_impl_SameOid := by
  have h := meets_of (ann := a_impl_SameOid) (ps := [.val false (.one (.sl (.one (.int .i64)))) false, .val false (.one (.sl (.one (.int .i64)))) false]) (rs := [.val false (.one .bool) true]) g_95 mixed Try.func98 (by kernel_rfl) (by kernel_rfl : Try.f98.body = some (codeOf Try.f98))
  rw [e_impl_SameOid] at h
  exact h
noncomputable def fns_98 : List (FuncId × Fn) := (98, F_impl_SameOid) :: fns_95
theorem g_98 : Good Try.prog ⟨tis, fns_98, [], false⟩ := g_95.cons m_impl_SameOid
noncomputable def impl_SameVal (a0 : Val) (b1 : Val) : Option Bool :=
  (cond (a0.1 == b1.1) (some (a0.2.1 == b1.2.1)) (some false)).bind fun t16 =>
  (cond t16 (some (a0.2.2.1 == b1.2.2.1)) (some false)).bind fun t23 =>
  (cond t23
    ((impl_SameOid a0.2.2.2 b1.2.2.2).bind fun t29 =>
    some t29)
    (some false)).bind fun t30 =>
  some t30
noncomputable def F_impl_SameVal : Fn := ⟨[.val true cVal false, .val true cVal false], [.val false (.one .bool) true], fun a => impl_SameVal a.1 a.2⟩
def a_impl_SameVal : List (Nat × LoopAnn) := []
theorem e_impl_SameVal : fnDen ⟨tis, fns_98, [], false⟩ a_impl_SameVal Try.f97 (codeOf Try.f97) [.val true cVal false, .val true cVal false] [.val false (.one .bool) true] = fun a => impl_SameVal a.1 a.2 := by kernel_rfl
theorem m_impl_SameVal : Meets Try.prog 97 F_impl_SameVal := by
  have h := meets_of (ann := a_impl_SameVal) (ps := [.val true cVal false, .val true cVal false]) (rs := [.val false (.one .bool) true]) g_98 mixed Try.func97 (by kernel_rfl) (by kernel_rfl : Try.f97.body = some (codeOf Try.f97))
  rw [e_impl_SameVal] at h
  exact h
noncomputable def fns_97 : List (FuncId × Fn) := (97, F_impl_SameVal) :: fns_98
theorem g_97 : Good Try.prog ⟨tis, fns_97, [], false⟩ := g_98.cons m_impl_SameVal
noncomputable def impl_ValOk (v0 : Val) : Option Bool :=
  cond (v0.1 == 2)
    ((impl_isInt v0.2.1).bind fun t17 =>
    (cond t17
      ((impl_SameVal v0 (v0.1, v0.2.1, [], [])).bind fun t43 =>
      some t43)
      (some false)).bind fun t44 =>
    some t44)
    (cond (v0.1 == 4)
      (let ok4 := decide ((v0.2.2.1.length : Int) ≤ 20)
      (cond ok4
        ((impl_SameVal v0 (v0.1, 0, v0.2.2.1, [])).bind fun t43_1 =>
        some t43_1)
        (some false)).bind fun t44_1 =>
      some t44_1)
      (cond (v0.1 == 6)
        ((impl_OidOk v0.2.2.2).bind fun t34 =>
        (cond t34
          ((impl_SameVal v0 (v0.1, 0, [], v0.2.2.2)).bind fun t43_2 =>
          some t43_2)
          (some false)).bind fun t44_2 =>
        some t44_2)
        (cond (v0.1 == 5)
          (cond (v0.1 == 5)
            (((impl_SameVal v0 (v0.1, 0, [], [])).bind fun t43_3 =>
            some t43_3).bind fun t44_3 =>
            some t44_3)
            (some false))
          (cond (v0.1 == 128)
            (cond (v0.1 == 128)
              (((impl_SameVal v0 (v0.1, 0, [], [])).bind fun t43_4 =>
              some t43_4).bind fun t44_4 =>
              some t44_4)
              (some false))
            (cond (v0.1 == 130)
              (((impl_SameVal v0 (v0.1, 0, [], [])).bind fun t43_5 =>
              some t43_5).bind fun t44_5 =>
              some t44_5)
              (some false))))))
noncomputable def F_impl_ValOk : Fn := ⟨[.val true cVal false], [.val false (.one .bool) true], fun a => impl_ValOk a⟩
def a_impl_ValOk : List (Nat × LoopAnn) := []
theorem e_impl_ValOk : fnDen ⟨tis, fns_97, [], false⟩ a_impl_ValOk Try.f93 (codeOf Try.f93) [.val true cVal false] [.val false (.one .bool) true] = fun a => impl_ValOk a := by kernel_rfl
theorem m_impl_ValOk : Meets Try.prog 93 F_impl_ValOk := by
  have h := meets_of (ann := a_impl_ValOk) (ps := [.val true cVal false]) (rs := [.val false (.one .bool) true]) g_97 mixed Try.func93 (by kernel_rfl) (by kernel_rfl : Try.f93.body = some (codeOf Try.f93))
  rw [e_impl_ValOk] at h
  exact h
noncomputable def fns_93 : List (FuncId × Fn) := (93, F_impl_ValOk) :: fns_97
theorem g_93 : Good Try.prog ⟨tis, fns_93, [], false⟩ := g_97.cons m_impl_ValOk
noncomputable def impl_GetVal (b0 : List Int) (at1 : Int) : Option (Val × Int × Bool) :=
  (impl_GetTlv b0 at1).bind fun t15 =>
  cond (!t15.2.2.2)
    (some ((0, 0, [], []), 0, false))
    (cond (t15.1 == 2)
      ((impl_GetInt t15.2.1).bind fun t33 =>
      (cond (!t33.2)
        (some true)
        ((impl_ValOk (t15.1, t33.1, [], [])).bind fun t54 =>
        some (!t54))).bind fun t56 =>
      cond t56
        (some ((0, 0, [], []), 0, false))
        (some ((t15.1, t33.1, [], []), t15.2.2.1, true)))
      (cond (t15.1 == 4)
        ((cond (!t15.2.2.2)
          (some true)
          ((impl_ValOk (t15.1, 0, bytesOf t15.2.1, [])).bind fun t54_1 =>
          some (!t54_1))).bind fun t56_1 =>
        cond t56_1
          (some ((0, 0, [], []), 0, false))
          (some ((t15.1, 0, bytesOf t15.2.1, []), t15.2.2.1, true)))
        (cond (t15.1 == 6)
          ((impl_GetOid t15.2.1).bind fun t46 =>
          (cond (!t46.2)
            (some true)
            ((impl_ValOk (t15.1, 0, [], t46.1)).bind fun t54_2 =>
            some (!t54_2))).bind fun t56_2 =>
          cond t56_2
            (some ((0, 0, [], []), 0, false))
            (some ((t15.1, 0, [], t46.1), t15.2.2.1, true)))
          (let ok10 := (t15.2.1.length : Int) == 0
          (cond (!ok10)
            (some true)
            ((impl_ValOk (t15.1, 0, [], [])).bind fun t54_3 =>
            some (!t54_3))).bind fun t56_3 =>
          cond t56_3
            (some ((0, 0, [], []), 0, false))
            (some ((t15.1, 0, [], []), t15.2.2.1, true))))))
noncomputable def F_impl_GetVal : Fn := ⟨[.val false (.one (.sl (.one (.int .u8)))) false, .val false (.one (.int .i64)) false], [.val true cVal true, .val false (.one (.int .i64)) true, .val false (.one .bool) true], fun a => impl_GetVal a.1 a.2⟩
def a_impl_GetVal : List (Nat × LoopAnn) := []
theorem e_impl_GetVal : fnDen ⟨tis, fns_93, [], false⟩ a_impl_GetVal Try.f83 (codeOf Try.f83) [.val false (.one (.sl (.one (.int .u8)))) false, .val false (.one (.int .i64)) false] [.val true cVal true, .val false (.one (.int .i64)) true, .val false (.one .bool) true] = fun a => impl_GetVal a.1 a.2 := by kernel_rfl
theorem m_impl_GetVal : Meets Try.prog 83 F_impl_GetVal := by
  have h := meets_of (ann := a_impl_GetVal) (ps := [.val false (.one (.sl (.one (.int .u8)))) false, .val false (.one (.int .i64)) false]) (rs := [.val true cVal true, .val false (.one (.int .i64)) true, .val false (.one .bool) true]) g_93 mixed Try.func83 (by kernel_rfl) (by kernel_rfl : Try.f83.body = some (codeOf Try.f83))
  rw [e_impl_GetVal] at h
  exact h
noncomputable def fns_83 : List (FuncId × Fn) := (83, F_impl_GetVal) :: fns_93
theorem g_83 : Good Try.prog ⟨tis, fns_83, [], false⟩ := g_93.cons m_impl_GetVal
noncomputable def impl_bindOf (b0 : List Int) : Option (Bind × Bool) :=
  (impl_parts_part (b0, 0, false) 6).bind fun t15 =>
  (impl_GetOid t15.2).bind fun t16 =>
  (impl_GetVal b0 t15.1.2.1).bind fun t25 =>
  (cond t15.1.2.2 (some true) (some (!t16.2))).bind fun t36 =>
  (cond t36 (some true) (some (!t25.2.2))).bind fun t40 =>
  (cond t40 (some true) (some (t25.2.1 != (b0.length : Int)))).bind fun t46 =>
  cond t46
    (some (([], 0, 0, [], []), false))
    (some ((t16.1, t25.1.1, t25.1.2.1, t25.1.2.2.1, t25.1.2.2.2), true))
noncomputable def F_impl_bindOf : Fn := ⟨[.val false (.one (.sl (.one (.int .u8)))) false], [.val true cBind true, .val false (.one .bool) true], fun a => impl_bindOf a⟩
def a_impl_bindOf : List (Nat × LoopAnn) := []
theorem e_impl_bindOf : fnDen ⟨tis, fns_83, [], false⟩ a_impl_bindOf Try.f72 (codeOf Try.f72) [.val false (.one (.sl (.one (.int .u8)))) false] [.val true cBind true, .val false (.one .bool) true] = fun a => impl_bindOf a := by kernel_rfl
theorem m_impl_bindOf : Meets Try.prog 72 F_impl_bindOf := by
  have h := meets_of (ann := a_impl_bindOf) (ps := [.val false (.one (.sl (.one (.int .u8)))) false]) (rs := [.val true cBind true, .val false (.one .bool) true]) g_83 mixed Try.func72 (by kernel_rfl) (by kernel_rfl : Try.f72.body = some (codeOf Try.f72))
  rw [e_impl_bindOf] at h
  exact h
noncomputable def fns_72 : List (FuncId × Fn) := (72, F_impl_bindOf) :: fns_83
theorem g_72 : Good Try.prog ⟨tis, fns_72, [], false⟩ := g_83.cons m_impl_bindOf
noncomputable def impl_PduOk_l1 (p0 : Pdu) (t35 : Int) : Option (Int ⊕ (Unit ⊕ Bool)) :=
  cond (decide (t35 < (p0.2.2.2.2.length : Int)))
    ((at? p0.2.2.2.2 t35).bind fun x38 =>
    (cond (decide (t35 ≥ 10))
      (some true)
      ((impl_OidOk x38.1).bind fun t45 =>
      some (!t45))).bind fun t47 =>
    (cond t47
      (some true)
      ((impl_ValOk x38.2).bind fun t51 =>
      some (!t51))).bind fun t53 =>
    cond t53 (some (.inr (.inr false))) (some (.inl (w64 (t35 + 1)))))
    (some (.inr (.inl ())))
noncomputable def impl_PduOk_l1_1 (p0 : Pdu) (t35_1 : Int) : Option (Int ⊕ (Unit ⊕ Bool)) :=
  cond (decide (t35_1 < (p0.2.2.2.2.length : Int)))
    ((at? p0.2.2.2.2 t35_1).bind fun x38_1 =>
    (cond (decide (t35_1 ≥ 10))
      (some true)
      ((impl_OidOk x38_1.1).bind fun t45_1 =>
      some (!t45_1))).bind fun t47_1 =>
    (cond t47_1
      (some true)
      ((impl_ValOk x38_1.2).bind fun t51_1 =>
      some (!t51_1))).bind fun t53_1 =>
    cond t53_1 (some (.inr (.inr false))) (some (.inl (w64 (t35_1 + 1)))))
    (some (.inr (.inl ())))
noncomputable def impl_PduOk_l1_2 (p0 : Pdu) (t35_2 : Int) : Option (Int ⊕ (Unit ⊕ Bool)) :=
  cond (decide (t35_2 < (p0.2.2.2.2.length : Int)))
    ((at? p0.2.2.2.2 t35_2).bind fun x38_2 =>
    (cond (decide (t35_2 ≥ 10))
      (some true)
      ((impl_OidOk x38_2.1).bind fun t45_2 =>
      some (!t45_2))).bind fun t47_2 =>
    (cond t47_2
      (some true)
      ((impl_ValOk x38_2.2).bind fun t51_2 =>
      some (!t51_2))).bind fun t53_2 =>
    cond t53_2 (some (.inr (.inr false))) (some (.inl (w64 (t35_2 + 1)))))
    (some (.inr (.inl ())))
noncomputable def impl_PduOk_l1_3 (p0 : Pdu) (t35_3 : Int) : Option (Int ⊕ (Unit ⊕ Bool)) :=
  cond (decide (t35_3 < (p0.2.2.2.2.length : Int)))
    ((at? p0.2.2.2.2 t35_3).bind fun x38_3 =>
    (cond (decide (t35_3 ≥ 10))
      (some true)
      ((impl_OidOk x38_3.1).bind fun t45_3 =>
      some (!t45_3))).bind fun t47_3 =>
    (cond t47_3
      (some true)
      ((impl_ValOk x38_3.2).bind fun t51_3 =>
      some (!t51_3))).bind fun t53_3 =>
    cond t53_3 (some (.inr (.inr false))) (some (.inl (w64 (t35_3 + 1)))))
    (some (.inr (.inl ())))
noncomputable def impl_PduOk_l1_4 (p0 : Pdu) (t35_4 : Int) : Option (Int ⊕ (Unit ⊕ Bool)) :=
  cond (decide (t35_4 < (p0.2.2.2.2.length : Int)))
    ((at? p0.2.2.2.2 t35_4).bind fun x38_4 =>
    (cond (decide (t35_4 ≥ 10))
      (some true)
      ((impl_OidOk x38_4.1).bind fun t45_4 =>
      some (!t45_4))).bind fun t47_4 =>
    (cond t47_4
      (some true)
      ((impl_ValOk x38_4.2).bind fun t51_4 =>
      some (!t51_4))).bind fun t53_4 =>
    cond t53_4 (some (.inr (.inr false))) (some (.inl (w64 (t35_4 + 1)))))
    (some (.inr (.inl ())))
noncomputable def impl_PduOk_l1_5 (p0 : Pdu) (t35_5 : Int) : Option (Int ⊕ (Unit ⊕ Bool)) :=
  cond (decide (t35_5 < (p0.2.2.2.2.length : Int)))
    ((at? p0.2.2.2.2 t35_5).bind fun x38_5 =>
    (cond (decide (t35_5 ≥ 10))
      (some true)
      ((impl_OidOk x38_5.1).bind fun t45_5 =>
      some (!t45_5))).bind fun t47_5 =>
    (cond t47_5
      (some true)
      ((impl_ValOk x38_5.2).bind fun t51_5 =>
      some (!t51_5))).bind fun t53_5 =>
    cond t53_5 (some (.inr (.inr false))) (some (.inl (w64 (t35_5 + 1)))))
    (some (.inr (.inl ())))
noncomputable def impl_PduOk_l1_6 (p0 : Pdu) (t35_6 : Int) : Option (Int ⊕ (Unit ⊕ Bool)) :=
  cond (decide (t35_6 < (p0.2.2.2.2.length : Int)))
    ((at? p0.2.2.2.2 t35_6).bind fun x38_6 =>
    (cond (decide (t35_6 ≥ 10))
      (some true)
      ((impl_OidOk x38_6.1).bind fun t45_6 =>
      some (!t45_6))).bind fun t47_6 =>
    (cond t47_6
      (some true)
      ((impl_ValOk x38_6.2).bind fun t51_6 =>
      some (!t51_6))).bind fun t53_6 =>
    cond t53_6 (some (.inr (.inr false))) (some (.inl (w64 (t35_6 + 1)))))
    (some (.inr (.inl ())))
noncomputable def impl_PduOk_l1_7 (p0 : Pdu) (t35_7 : Int) : Option (Int ⊕ (Unit ⊕ Bool)) :=
  cond (decide (t35_7 < (p0.2.2.2.2.length : Int)))
    ((at? p0.2.2.2.2 t35_7).bind fun x38_7 =>
    (cond (decide (t35_7 ≥ 10))
      (some true)
      ((impl_OidOk x38_7.1).bind fun t45_7 =>
      some (!t45_7))).bind fun t47_7 =>
    (cond t47_7
      (some true)
      ((impl_ValOk x38_7.2).bind fun t51_7 =>
      some (!t51_7))).bind fun t53_7 =>
    cond t53_7 (some (.inr (.inr false))) (some (.inl (w64 (t35_7 + 1)))))
    (some (.inr (.inl ())))
noncomputable def impl_PduOk_l1_8 (p0 : Pdu) (t35_8 : Int) : Option (Int ⊕ (Unit ⊕ Bool)) :=
  cond (decide (t35_8 < (p0.2.2.2.2.length : Int)))
    ((at? p0.2.2.2.2 t35_8).bind fun x38_8 =>
    (cond (decide (t35_8 ≥ 10))
      (some true)
      ((impl_OidOk x38_8.1).bind fun t45_8 =>
      some (!t45_8))).bind fun t47_8 =>
    (cond t47_8
      (some true)
      ((impl_ValOk x38_8.2).bind fun t51_8 =>
      some (!t51_8))).bind fun t53_8 =>
    cond t53_8 (some (.inr (.inr false))) (some (.inl (w64 (t35_8 + 1)))))
    (some (.inr (.inl ())))
noncomputable def impl_PduOk (p0 : Pdu) : Option Bool :=
  cond (p0.1 == 160)
    (cond (p0.1 == 160)
      ((cond (p0.2.2.1 != 0) (some true) (some (p0.2.2.2.1 != 0))).bind fun t18 =>
      cond t18
        (some false)
        ((loop (fun z => impl_PduOk_l1 p0 z) 0).bind (Sum.elim (fun d =>
          (impl_isInt p0.2.1).bind fun t57 =>
          some t57) (fun r => some r))))
      (cond (p0.1 == 162)
        (cond (p0.1 == 162)
          ((impl_in p0.2.2.1 0 1000).bind fun t24 =>
          (cond (!t24)
            (some true)
            ((impl_in p0.2.2.2.1 0 1000).bind fun t29 =>
            some (!t29))).bind fun t31 =>
          cond t31
            (some false)
            ((loop (fun z => impl_PduOk_l1_1 p0 z) 0).bind (Sum.elim (fun d_1 =>
              (impl_isInt p0.2.1).bind fun t57_1 =>
              some t57_1) (fun r_1 => some r_1))))
          (some false))
        (cond (p0.1 == 165)
          ((impl_in p0.2.2.1 0 1000).bind fun t24_1 =>
          (cond (!t24_1)
            (some true)
            ((impl_in p0.2.2.2.1 0 1000).bind fun t29_1 =>
            some (!t29_1))).bind fun t31_1 =>
          cond t31_1
            (some false)
            ((loop (fun z => impl_PduOk_l1_2 p0 z) 0).bind (Sum.elim (fun d_2 =>
              (impl_isInt p0.2.1).bind fun t57_2 =>
              some t57_2) (fun r_2 => some r_2))))
          (some false))))
    (cond (p0.1 == 161)
      (cond (p0.1 == 161)
        ((cond (p0.2.2.1 != 0) (some true) (some (p0.2.2.2.1 != 0))).bind fun t18_1 =>
        cond t18_1
          (some false)
          ((loop (fun z => impl_PduOk_l1_3 p0 z) 0).bind (Sum.elim (fun d_3 =>
            (impl_isInt p0.2.1).bind fun t57_3 =>
            some t57_3) (fun r_3 => some r_3))))
        (cond (p0.1 == 162)
          (cond (p0.1 == 162)
            ((impl_in p0.2.2.1 0 1000).bind fun t24_2 =>
            (cond (!t24_2)
              (some true)
              ((impl_in p0.2.2.2.1 0 1000).bind fun t29_2 =>
              some (!t29_2))).bind fun t31_2 =>
            cond t31_2
              (some false)
              ((loop (fun z => impl_PduOk_l1_4 p0 z) 0).bind (Sum.elim (fun d_4 =>
                (impl_isInt p0.2.1).bind fun t57_4 =>
                some t57_4) (fun r_4 => some r_4))))
            (some false))
          (cond (p0.1 == 165)
            ((impl_in p0.2.2.1 0 1000).bind fun t24_3 =>
            (cond (!t24_3)
              (some true)
              ((impl_in p0.2.2.2.1 0 1000).bind fun t29_3 =>
              some (!t29_3))).bind fun t31_3 =>
            cond t31_3
              (some false)
              ((loop (fun z => impl_PduOk_l1_5 p0 z) 0).bind (Sum.elim (fun d_5 =>
                (impl_isInt p0.2.1).bind fun t57_5 =>
                some t57_5) (fun r_5 => some r_5))))
            (some false))))
      (cond (p0.1 == 163)
        ((cond (p0.2.2.1 != 0) (some true) (some (p0.2.2.2.1 != 0))).bind fun t18_2 =>
        cond t18_2
          (some false)
          ((loop (fun z => impl_PduOk_l1_6 p0 z) 0).bind (Sum.elim (fun d_6 =>
            (impl_isInt p0.2.1).bind fun t57_6 =>
            some t57_6) (fun r_6 => some r_6))))
        (cond (p0.1 == 162)
          (cond (p0.1 == 162)
            ((impl_in p0.2.2.1 0 1000).bind fun t24_4 =>
            (cond (!t24_4)
              (some true)
              ((impl_in p0.2.2.2.1 0 1000).bind fun t29_4 =>
              some (!t29_4))).bind fun t31_4 =>
            cond t31_4
              (some false)
              ((loop (fun z => impl_PduOk_l1_7 p0 z) 0).bind (Sum.elim (fun d_7 =>
                (impl_isInt p0.2.1).bind fun t57_7 =>
                some t57_7) (fun r_7 => some r_7))))
            (some false))
          (cond (p0.1 == 165)
            ((impl_in p0.2.2.1 0 1000).bind fun t24_5 =>
            (cond (!t24_5)
              (some true)
              ((impl_in p0.2.2.2.1 0 1000).bind fun t29_5 =>
              some (!t29_5))).bind fun t31_5 =>
            cond t31_5
              (some false)
              ((loop (fun z => impl_PduOk_l1_8 p0 z) 0).bind (Sum.elim (fun d_8 =>
                (impl_isInt p0.2.1).bind fun t57_8 =>
                some t57_8) (fun r_8 => some r_8))))
            (some false)))))
noncomputable def F_impl_PduOk : Fn := ⟨[.val true cPdu false], [.val false (.one .bool) true], fun a => impl_PduOk a⟩
def a_impl_PduOk : List (Nat × LoopAnn) := [(1, ⟨⟨[(35, false, [.dat (.int .i64)]), (43, false, [.undef]), (44, false, [.undef]), (45, false, [.undef]), (46, false, [.undef]), (49, false, [.undef]), (50, false, [.undef]), (51, false, [.undef]), (52, false, [.undef])], []⟩,
    ⟨[], []⟩, some ⟨[(2, false, [.dat .bool])], []⟩⟩)]
theorem e_impl_PduOk : fnDen ⟨tis, fns_72, [], false⟩ a_impl_PduOk Try.f84 (codeOf Try.f84) [.val true cPdu false] [.val false (.one .bool) true] = fun a => impl_PduOk a := by kernel_rfl
theorem m_impl_PduOk : Meets Try.prog 84 F_impl_PduOk := by
  have h := meets_of (ann := a_impl_PduOk) (ps := [.val true cPdu false]) (rs := [.val false (.one .bool) true]) g_72 mixed Try.func84 (by kernel_rfl) (by kernel_rfl : Try.f84.body = some (codeOf Try.f84))
  rw [e_impl_PduOk] at h
  exact h
noncomputable def fns_84 : List (FuncId × Fn) := (84, F_impl_PduOk) :: fns_72
theorem g_84 : Good Try.prog ⟨tis, fns_84, [], false⟩ := g_72.cons m_impl_PduOk
noncomputable def impl_tlv (tag0 : Int) (body1 : List Int) : Option ((List Int) × Bool) :=
  (impl_in tag0 0 255).bind fun t8 =>
  (cond (!t8) (some true) (some (decide ((body1.length : Int) > 250)))).bind fun t14 =>
  cond t14
    (some ([], false))
    (cond (decide ((body1.length : Int) ≥ 128))
      ((app [IntKind.u8.wrap (tag0)] ([129] : List Int)).bind fun zs23 =>
      (app zs23 [IntKind.u8.wrap ((body1.length : Int))]).bind fun zs29 =>
      (app zs29 body1).bind fun zs31 =>
      some (zs31, true))
      ((app [IntKind.u8.wrap (tag0)] [IntKind.u8.wrap ((body1.length : Int))]).bind fun zs29_1 =>
      (app zs29_1 body1).bind fun zs31_1 =>
      some (zs31_1, true)))
noncomputable def F_impl_tlv : Fn := ⟨[.val false (.one (.int .i64)) false, .val false (.one (.sl (.one (.int .u8)))) false], [.val false (.one (.sl (.one (.int .u8)))) true, .val false (.one .bool) true], fun a => impl_tlv a.1 a.2⟩
def a_impl_tlv : List (Nat × LoopAnn) := []
theorem e_impl_tlv : fnDen ⟨tis, fns_84, [], false⟩ a_impl_tlv Try.f85 (codeOf Try.f85) [.val false (.one (.int .i64)) false, .val false (.one (.sl (.one (.int .u8)))) false] [.val false (.one (.sl (.one (.int .u8)))) true, .val false (.one .bool) true] = fun a => impl_tlv a.1 a.2 := by kernel_rfl
theorem m_impl_tlv : Meets Try.prog 85 F_impl_tlv := by
  have h := meets_of (ann := a_impl_tlv) (ps := [.val false (.one (.int .i64)) false, .val false (.one (.sl (.one (.int .u8)))) false]) (rs := [.val false (.one (.sl (.one (.int .u8)))) true, .val false (.one .bool) true]) g_84 mixed Try.func85 (by kernel_rfl) (by kernel_rfl : Try.f85.body = some (codeOf Try.f85))
  rw [e_impl_tlv] at h
  exact h
noncomputable def fns_85 : List (FuncId × Fn) := (85, F_impl_tlv) :: fns_84
theorem g_85 : Good Try.prog ⟨tis, fns_85, [], false⟩ := g_84.cons m_impl_tlv
noncomputable def impl_PutTlv (b0 : List Int) (tag1 : Int) (body2 : List Int) : Option (List Int) :=
  (impl_tlv tag1 body2).bind fun t12 =>
  (impl_copyBytes b0).bind fun t16 =>
  (app t16 t12.1).bind fun zs18 =>
  some zs18
noncomputable def F_impl_PutTlv : Fn := ⟨[.val false (.one (.sl (.one (.int .u8)))) false, .val false (.one (.int .i64)) false, .val false (.one (.sl (.one (.int .u8)))) false], [.val false (.one (.sl (.one (.int .u8)))) true], fun a => impl_PutTlv a.1 a.2.1 a.2.2⟩
def a_impl_PutTlv : List (Nat × LoopAnn) := []
theorem e_impl_PutTlv : fnDen ⟨tis, fns_85, [], false⟩ a_impl_PutTlv Try.f87 (codeOf Try.f87) [.val false (.one (.sl (.one (.int .u8)))) false, .val false (.one (.int .i64)) false, .val false (.one (.sl (.one (.int .u8)))) false] [.val false (.one (.sl (.one (.int .u8)))) true] = fun a => impl_PutTlv a.1 a.2.1 a.2.2 := by kernel_rfl
theorem m_impl_PutTlv : Meets Try.prog 87 F_impl_PutTlv := by
  have h := meets_of (ann := a_impl_PutTlv) (ps := [.val false (.one (.sl (.one (.int .u8)))) false, .val false (.one (.int .i64)) false, .val false (.one (.sl (.one (.int .u8)))) false]) (rs := [.val false (.one (.sl (.one (.int .u8)))) true]) g_85 mixed Try.func87 (by kernel_rfl) (by kernel_rfl : Try.f87.body = some (codeOf Try.f87))
  rw [e_impl_PutTlv] at h
  exact h
noncomputable def fns_87 : List (FuncId × Fn) := (87, F_impl_PutTlv) :: fns_85
theorem g_87 : Good Try.prog ⟨tis, fns_87, [], false⟩ := g_85.cons m_impl_PutTlv
noncomputable def impl_PutVal (b0 : List Int) (v1 : Val) : Option (List Int) :=
  (impl_ValOk v1).bind fun t7 =>
  cond (!t7)
    ((impl_copyBytes b0).bind fun t10 =>
    some t10)
    (cond (v1.1 == 2)
      ((impl_PutInt v1.2.1).bind fun t17 =>
      (impl_PutTlv b0 v1.1 t17).bind fun t32 =>
      some t32)
      (cond (v1.1 == 4)
        ((impl_PutTlv b0 v1.1 (intsOf v1.2.2.1)).bind fun t32_1 =>
        some t32_1)
        (cond (v1.1 == 6)
          ((impl_PutOid v1.2.2.2).bind fun t27 =>
          (impl_PutTlv b0 v1.1 t27).bind fun t32_2 =>
          some t32_2)
          ((impl_PutTlv b0 v1.1 []).bind fun t32_3 =>
          some t32_3))))
noncomputable def F_impl_PutVal : Fn := ⟨[.val false (.one (.sl (.one (.int .u8)))) false, .val true cVal false], [.val false (.one (.sl (.one (.int .u8)))) true], fun a => impl_PutVal a.1 a.2⟩
def a_impl_PutVal : List (Nat × LoopAnn) := []
theorem e_impl_PutVal : fnDen ⟨tis, fns_87, [], false⟩ a_impl_PutVal Try.f86 (codeOf Try.f86) [.val false (.one (.sl (.one (.int .u8)))) false, .val true cVal false] [.val false (.one (.sl (.one (.int .u8)))) true] = fun a => impl_PutVal a.1 a.2 := by kernel_rfl
theorem m_impl_PutVal : Meets Try.prog 86 F_impl_PutVal := by
  have h := meets_of (ann := a_impl_PutVal) (ps := [.val false (.one (.sl (.one (.int .u8)))) false, .val true cVal false]) (rs := [.val false (.one (.sl (.one (.int .u8)))) true]) g_87 mixed Try.func86 (by kernel_rfl) (by kernel_rfl : Try.f86.body = some (codeOf Try.f86))
  rw [e_impl_PutVal] at h
  exact h
noncomputable def fns_86 : List (FuncId × Fn) := (86, F_impl_PutVal) :: fns_87
theorem g_86 : Good Try.prog ⟨tis, fns_86, [], false⟩ := g_87.cons m_impl_PutVal
noncomputable def impl_addNum (out0 : List Int) (tag1 : Int) (n2 : Int) : Option (List Int) :=
  (impl_PutInt n2).bind fun t10 =>
  (impl_PutTlv out0 tag1 t10).bind fun t11 =>
  some t11
noncomputable def F_impl_addNum : Fn := ⟨[.val false (.one (.sl (.one (.int .u8)))) false, .val false (.one (.int .i64)) false, .val false (.one (.int .i64)) false], [.val false (.one (.sl (.one (.int .u8)))) true], fun a => impl_addNum a.1 a.2.1 a.2.2⟩
def a_impl_addNum : List (Nat × LoopAnn) := []
theorem e_impl_addNum : fnDen ⟨tis, fns_86, [], false⟩ a_impl_addNum Try.f89 (codeOf Try.f89) [.val false (.one (.sl (.one (.int .u8)))) false, .val false (.one (.int .i64)) false, .val false (.one (.int .i64)) false] [.val false (.one (.sl (.one (.int .u8)))) true] = fun a => impl_addNum a.1 a.2.1 a.2.2 := by kernel_rfl
theorem m_impl_addNum : Meets Try.prog 89 F_impl_addNum := by
  have h := meets_of (ann := a_impl_addNum) (ps := [.val false (.one (.sl (.one (.int .u8)))) false, .val false (.one (.int .i64)) false, .val false (.one (.int .i64)) false]) (rs := [.val false (.one (.sl (.one (.int .u8)))) true]) g_86 mixed Try.func89 (by kernel_rfl) (by kernel_rfl : Try.f89.body = some (codeOf Try.f89))
  rw [e_impl_addNum] at h
  exact h
noncomputable def fns_89 : List (FuncId × Fn) := (89, F_impl_addNum) :: fns_86
theorem g_89 : Good Try.prog ⟨tis, fns_89, [], false⟩ := g_86.cons m_impl_addNum
noncomputable def impl_PutPdu_l0 (p0 : Pdu) (t18 : Int) (t3 : List Int) : Option ((Int × List Int) ⊕ ((List Int) ⊕ (List Int))) :=
  cond (decide (t18 < (p0.2.2.2.2.length : Int)))
    ((at? p0.2.2.2.2 t18).bind fun x20 =>
    (impl_PutOid x20.1).bind fun t25 =>
    (impl_PutTlv [] 6 t25).bind fun t26 =>
    (impl_PutVal t26 x20.2).bind fun t29 =>
    (impl_tlv 48 t29).bind fun t30 =>
    cond (!t30.2)
      (some (.inr (.inr [])))
      ((app t3 t30.1).bind fun zs37 =>
      some (.inl (w64 (t18 + 1), zs37))))
    (some (.inr (.inl t3)))
noncomputable def impl_PutPdu (p0 : Pdu) : Option (List Int) :=
  (impl_PduOk p0).bind fun t13 =>
  cond (!t13)
    (some [])
    ((loop (fun z => impl_PutPdu_l0 p0 z.1 z.2) (0, [])).bind (Sum.elim (fun d =>
      (impl_tlv 48 d).bind fun t41 =>
      cond (!t41.2)
        (some [])
        ((impl_addNum [] 2 p0.2.1).bind fun t51 =>
        (impl_addNum t51 2 p0.2.2.1).bind fun t54 =>
        (impl_addNum t54 2 p0.2.2.2.1).bind fun t57 =>
        (app t57 t41.1).bind fun zs59 =>
        (impl_tlv p0.1 zs59).bind fun t60 =>
        cond (!t60.2) (some []) (some t60.1))) (fun r => some r)))
noncomputable def F_impl_PutPdu : Fn := ⟨[.val true cPdu false], [.val false (.one (.sl (.one (.int .u8)))) true], fun a => impl_PutPdu a⟩
def a_impl_PutPdu : List (Nat × LoopAnn) := [(0, ⟨⟨[(3, false, [.own 1000000000]), (18, false, [.dat (.int .i64)])], [(1000000000, .root (.one (.int .u8)) true)]⟩,
    ⟨[(3, false, [.own 1000000300])], [(1000000300, .root (.one (.int .u8)) true)]⟩, some ⟨[(2, false, [.own 1000000600])], [(1000000600, .root (.one (.int .u8)) true)]⟩⟩)]
theorem e_impl_PutPdu : fnDen ⟨tis, fns_89, [], false⟩ a_impl_PutPdu Try.f73 (codeOf Try.f73) [.val true cPdu false] [.val false (.one (.sl (.one (.int .u8)))) true] = fun a => impl_PutPdu a := by kernel_rfl
theorem m_impl_PutPdu : Meets Try.prog 73 F_impl_PutPdu := by
  have h := meets_of (ann := a_impl_PutPdu) (ps := [.val true cPdu false]) (rs := [.val false (.one (.sl (.one (.int .u8)))) true]) g_89 mixed Try.func73 (by kernel_rfl) (by kernel_rfl : Try.f73.body = some (codeOf Try.f73))
  rw [e_impl_PutPdu] at h
  exact h
noncomputable def fns_73 : List (FuncId × Fn) := (73, F_impl_PutPdu) :: fns_89
theorem g_73 : Good Try.prog ⟨tis, fns_73, [], false⟩ := g_89.cons m_impl_PutPdu
noncomputable def impl_GetPdu_l0 (b0 : Int) (b1 : Int) (b2 : Int) (b3 : Int) (b0_1 : Int) (b1_1 : Int) (b2_1 : Int) (b3_1 : Int) (b0_2 : List Int) (b1_2 : Int) (b2_2 : Bool) (b4 : List Bind) (b4_1 : List Bind) : Option ((Int × Int × Int × Int × Int × Int × Int × Int × List Int × Int × Bool × List Bind × List Bind) ⊕ ((Int × Int × Int × Int × Int × Int × Int × Int × List Int × Int × Bool × List Bind × List Bind) ⊕ (Bool × Int × Int × Int × Int × List Bind))) :=
  cond (decide (b1_2 < (b0_2.length : Int)))
    ((impl_parts_part (b0_2, b1_2, b2_2) 48).bind fun t64 =>
    (impl_bindOf t64.2).bind fun t65 =>
    (cond (!t65.2) (some true) (some (decide ((b4_1.length : Int) ≥ 10)))).bind fun t75 =>
    cond t75
      (some (.inr (.inr (false, 0, 0, 0, 0, []))))
      ((app b4_1 [t65.1]).bind fun zs81 =>
      some (.inl (b0, b1, b2, b3, b0_1, b1_1, b2_1, b3_1, t64.1.1, t64.1.2.1, t64.1.2.2, b4, zs81))))
    (some (.inr (.inl (b0, b1, b2, b3, b0_1, b1_1, b2_1, b3_1, b0_2, b1_2, b2_2, b4, b4_1))))
noncomputable def impl_GetPdu (p0 : List Int) : Option (Pdu × Bool) :=
  (impl_GetTlv p0 0).bind fun t16 =>
  (cond (!t16.2.2.2) (some true) (some (t16.2.2.1 != (p0.length : Int)))).bind fun t28 =>
  cond t28
    (some ((0, 0, 0, 0, []), false))
    ((impl_parts_num (t16.2.1, 0, false) 2).bind fun t36 =>
    (impl_parts_num t36.1 2).bind fun t39 =>
    (impl_parts_num t39.1 2).bind fun t42 =>
    (impl_parts_part t42.1 48).bind fun t45 =>
    (impl_parts_done t45.1).bind fun t49 =>
    cond (!t49.2)
      (some ((0, 0, 0, 0, []), false))
      ((loop (fun z => impl_GetPdu_l0 z.1 z.2.1 z.2.2.1 z.2.2.2.1 z.2.2.2.2.1 z.2.2.2.2.2.1 z.2.2.2.2.2.2.1 z.2.2.2.2.2.2.2.1 z.2.2.2.2.2.2.2.2.1 z.2.2.2.2.2.2.2.2.2.1 z.2.2.2.2.2.2.2.2.2.2.1 z.2.2.2.2.2.2.2.2.2.2.2.1 z.2.2.2.2.2.2.2.2.2.2.2.2) (0, 0, 0, 0, t16.1, t36.2, t39.2, t42.2, t45.2, 0, false, [], [])).bind (Sum.elim (fun d =>
        (impl_PutPdu (d.2.2.2.2.1, d.2.2.2.2.2.1, d.2.2.2.2.2.2.1, d.2.2.2.2.2.2.2.1, d.2.2.2.2.2.2.2.2.2.2.2.2)).bind fun t84 =>
        (cond ((t84.length : Int) == 0) (some true) (some (!((bytesOf t84) == (bytesOf p0))))).bind fun t94 =>
        cond t94
          (some ((0, 0, 0, 0, []), false))
          (some ((d.2.2.2.2.1, d.2.2.2.2.2.1, d.2.2.2.2.2.2.1, d.2.2.2.2.2.2.2.1, d.2.2.2.2.2.2.2.2.2.2.2.2), true))) (fun r => some (r.2, r.1)))))
noncomputable def F_impl_GetPdu : Fn := ⟨[.val false (.one (.sl (.one (.int .u8)))) false], [.val true cPdu true, .val false (.one .bool) true], fun a => impl_GetPdu a⟩
def a_impl_GetPdu : List (Nat × LoopAnn) := [(0, ⟨⟨[(71, false, [.undef]), (72, false, [.undef]), (73, false, [.undef]), (74, false, [.undef])], [(1024, .box [.dat (.int .i64), .dat (.int .i64), .dat (.int .i64), .dat (.int .i64), .own 1000000000]), (1051648, .box [.dat (.int .i64), .dat (.int .i64), .dat (.int .i64), .dat (.int .i64), .own 1000000001]), (2363392, .box [.dat (.sl (.one (.int .u8))), .dat (.int .i64), .dat .bool]), (1000000000, .root cBind true), (1000000001, .root cBind true)]⟩,
    ⟨[], [(1024, .box [.dat (.int .i64), .dat (.int .i64), .dat (.int .i64), .dat (.int .i64), .own 1000000300]), (1051648, .box [.dat (.int .i64), .dat (.int .i64), .dat (.int .i64), .dat (.int .i64), .own 1000000301]), (2363392, .box [.dat (.sl (.one (.int .u8))), .dat (.int .i64), .dat .bool]), (1000000300, .root cBind true), (1000000301, .root cBind true)]⟩, some ⟨[(3, false, [.dat .bool])], [(1024, .box [.dat (.int .i64), .dat (.int .i64), .dat (.int .i64), .dat (.int .i64), .own 1000000600]), (1000000600, .root cBind true)]⟩⟩)]
theorem e_impl_GetPdu : fnDen ⟨tis, fns_73, [], false⟩ a_impl_GetPdu Try.f50 (codeOf Try.f50) [.val false (.one (.sl (.one (.int .u8)))) false] [.val true cPdu true, .val false (.one .bool) true] = fun a => impl_GetPdu a := by kernel_rfl
theorem m_impl_GetPdu : Meets Try.prog 50 F_impl_GetPdu := by
  have h := meets_of (ann := a_impl_GetPdu) (ps := [.val false (.one (.sl (.one (.int .u8)))) false]) (rs := [.val true cPdu true, .val false (.one .bool) true]) g_73 mixed Try.func50 (by kernel_rfl) (by kernel_rfl : Try.f50.body = some (codeOf Try.f50))
  rw [e_impl_GetPdu] at h
  exact h
noncomputable def fns_50 : List (FuncId × Fn) := (50, F_impl_GetPdu) :: fns_73
theorem g_50 : Good Try.prog ⟨tis, fns_50, [], false⟩ := g_73.cons m_impl_GetPdu
noncomputable def impl_GetMsg (p0 : List UInt8) (i1 : List Int) : Option (Pdu × Int) :=
  (impl_GetTlv i1 0).bind fun t17 =>
  (cond (!t17.2.2.2) (some true) (some (t17.1 != 48))).bind fun t27 =>
  (cond t27 (some true) (some (t17.2.2.1 != (i1.length : Int)))).bind fun t33 =>
  cond t33
    (some ((0, 0, 0, 0, []), 1))
    ((impl_parts_num (t17.2.1, 0, false) 2).bind fun t39 =>
    (impl_parts_part t39.1 4).bind fun t41 =>
    cond t41.1.2.2
      (some ((0, 0, 0, 0, []), 1))
      (cond (t39.2 != 1)
        (some ((0, 0, 0, 0, []), 2))
        (cond (!((bytesOf t41.2) == p0))
          (some ((0, 0, 0, 0, []), 3))
          ((cut t17.2.1 t41.1.2.1 (t17.2.1.length : Int)).bind fun t64 =>
          (impl_GetPdu t64).bind fun t65 =>
          cond (!t65.2) (some ((0, 0, 0, 0, []), 1)) (some (t65.1, 0))))))
noncomputable def F_impl_GetMsg : Fn := ⟨[.val false (.one .str) false, .val false (.one (.sl (.one (.int .u8)))) false], [.val true cPdu true, .val false (.one (.int .i64)) true], fun a => impl_GetMsg a.1 a.2⟩
def a_impl_GetMsg : List (Nat × LoopAnn) := []
theorem e_impl_GetMsg : fnDen ⟨tis, fns_50, [], false⟩ a_impl_GetMsg Try.f29 (codeOf Try.f29) [.val false (.one .str) false, .val false (.one (.sl (.one (.int .u8)))) false] [.val true cPdu true, .val false (.one (.int .i64)) true] = fun a => impl_GetMsg a.1 a.2 := by kernel_rfl
theorem m_impl_GetMsg : Meets Try.prog 29 F_impl_GetMsg := by
  have h := meets_of (ann := a_impl_GetMsg) (ps := [.val false (.one .str) false, .val false (.one (.sl (.one (.int .u8)))) false]) (rs := [.val true cPdu true, .val false (.one (.int .i64)) true]) g_50 mixed Try.func29 (by kernel_rfl) (by kernel_rfl : Try.f29.body = some (codeOf Try.f29))
  rw [e_impl_GetMsg] at h
  exact h
noncomputable def fns_29 : List (FuncId × Fn) := (29, F_impl_GetMsg) :: fns_50
theorem g_29 : Good Try.prog ⟨tis, fns_29, [], false⟩ := g_50.cons m_impl_GetMsg
noncomputable def impl_isAsked (a0 : Agent) (j1 : Job) : Option (Pdu × Bool) :=
  (impl_GetMsg a0.2.2.2.2.2.2.2.2.2.2.2.1 j1.2.1).bind fun t13 =>
  cond (t13.2 == 0) (some (t13.1, t13.1.1 != 162)) (some (t13.1, false))
noncomputable def F_impl_isAsked : Fn := ⟨[.val true cAgent false, .val true cJob false], [.val true cPdu true, .val false (.one .bool) true], fun a => impl_isAsked a.1 a.2⟩
def a_impl_isAsked : List (Nat × LoopAnn) := []
theorem e_impl_isAsked : fnDen ⟨tis, fns_29, [], false⟩ a_impl_isAsked Try.f14 (codeOf Try.f14) [.val true cAgent false, .val true cJob false] [.val true cPdu true, .val false (.one .bool) true] = fun a => impl_isAsked a.1 a.2 := by kernel_rfl
theorem m_impl_isAsked : Meets Try.prog 14 F_impl_isAsked := by
  have h := meets_of (ann := a_impl_isAsked) (ps := [.val true cAgent false, .val true cJob false]) (rs := [.val true cPdu true, .val false (.one .bool) true]) g_29 mixed Try.func14 (by kernel_rfl) (by kernel_rfl : Try.f14.body = some (codeOf Try.f14))
  rw [e_impl_isAsked] at h
  exact h
noncomputable def fns_14 : List (FuncId × Fn) := (14, F_impl_isAsked) :: fns_29
theorem g_14 : Good Try.prog ⟨tis, fns_14, [], false⟩ := g_29.cons m_impl_isAsked
noncomputable def impl_AnswersOf_l0 (a0 : Agent) (n3 : Int) (t11 : Int) : Option ((Int × Int) ⊕ Int) :=
  cond (decide (t11 < (a0.2.2.2.2.2.2.2.2.2.2.2.2.1.length : Int)))
    ((at? a0.2.2.2.2.2.2.2.2.2.2.2.2.1 t11).bind fun x13 =>
    (impl_isAsked a0 x13).bind fun t18 =>
    (cond t18.2 (some true) (some (decide (x13.2.2.1 > 0)))).bind fun t26 =>
    cond t26
      (some (.inl (w64 (n3 + 1), w64 (t11 + 1))))
      (some (.inl (n3, w64 (t11 + 1)))))
    (some (.inr n3))
noncomputable def impl_AnswersOf (a0 : Agent) : Option Int :=
  (loop (fun z => impl_AnswersOf_l0 a0 z.1 z.2) (0, 0)).bind fun d =>
  some d
noncomputable def F_impl_AnswersOf : Fn := ⟨[.val true cAgent false], [.val false (.one (.int .i64)) true], fun a => impl_AnswersOf a⟩
def a_impl_AnswersOf : List (Nat × LoopAnn) := [(0, ⟨⟨[(3, false, [.dat (.int .i64)]), (11, false, [.dat (.int .i64)]), (23, false, [.undef]), (24, false, [.undef]), (25, false, [.undef])], []⟩,
    ⟨[(3, false, [.dat (.int .i64)])], []⟩, none⟩)]
theorem e_impl_AnswersOf : fnDen ⟨tis, fns_14, [], false⟩ a_impl_AnswersOf Try.f7 (codeOf Try.f7) [.val true cAgent false] [.val false (.one (.int .i64)) true] = fun a => impl_AnswersOf a := by kernel_rfl
theorem m_impl_AnswersOf : Meets Try.prog 7 F_impl_AnswersOf := by
  have h := meets_of (ann := a_impl_AnswersOf) (ps := [.val true cAgent false]) (rs := [.val false (.one (.int .i64)) true]) g_14 mixed Try.func7 (by kernel_rfl) (by kernel_rfl : Try.f7.body = some (codeOf Try.f7))
  rw [e_impl_AnswersOf] at h
  exact h
noncomputable def fns_7 : List (FuncId × Fn) := (7, F_impl_AnswersOf) :: fns_14
theorem g_7 : Good Try.prog ⟨tis, fns_7, [], false⟩ := g_14.cons m_impl_AnswersOf
noncomputable def laws_eqVec (a0 : Vec) (b1 : Vec) : Option Bool :=
  cond (a0.1 != b1.1)
    (some false)
    (cond (a0.2.1 != b1.2.1)
      (some false)
      (cond (a0.2.2.1 != b1.2.2.1)
        (some false)
        (cond (a0.2.2.2.1 != b1.2.2.2.1)
          (some false)
          (cond (a0.2.2.2.2 != b1.2.2.2.2) (some false) (some true)))))
noncomputable def F_laws_eqVec : Fn := ⟨[.val true cVec false, .val true cVec false], [.val false (.one .bool) true], fun a => laws_eqVec a.1 a.2⟩
def a_laws_eqVec : List (Nat × LoopAnn) := []
theorem e_laws_eqVec : fnDen ⟨tis, fns_7, [], false⟩ a_laws_eqVec Try.f74 (codeOf Try.f74) [.val true cVec false, .val true cVec false] [.val false (.one .bool) true] = fun a => laws_eqVec a.1 a.2 := by kernel_rfl
theorem m_laws_eqVec : Meets Try.prog 74 F_laws_eqVec := by
  have h := meets_of (ann := a_laws_eqVec) (ps := [.val true cVec false, .val true cVec false]) (rs := [.val false (.one .bool) true]) g_7 mixed Try.func74 (by kernel_rfl) (by kernel_rfl : Try.f74.body = some (codeOf Try.f74))
  rw [e_laws_eqVec] at h
  exact h
noncomputable def fns_74 : List (FuncId × Fn) := (74, F_laws_eqVec) :: fns_7
theorem g_74 : Good Try.prog ⟨tis, fns_74, [], false⟩ := g_7.cons m_laws_eqVec
noncomputable def laws_eqPt (a0 : Pt) (b1 : Pt) : Option Bool :=
  cond (!(a0.1 == b1.1))
    (some false)
    (cond (a0.2.1 != b1.2.1)
      (some false)
      (cond (!(a0.2.2.1 == b1.2.2.1))
        (some false)
        ((laws_eqVec a0.2.2.2 b1.2.2.2).bind fun t24 =>
        cond (!t24) (some false) (some true))))
noncomputable def F_laws_eqPt : Fn := ⟨[.val true cPt false, .val true cPt false], [.val false (.one .bool) true], fun a => laws_eqPt a.1 a.2⟩
def a_laws_eqPt : List (Nat × LoopAnn) := []
theorem e_laws_eqPt : fnDen ⟨tis, fns_74, [], false⟩ a_laws_eqPt Try.f51 (codeOf Try.f51) [.val true cPt false, .val true cPt false] [.val false (.one .bool) true] = fun a => laws_eqPt a.1 a.2 := by kernel_rfl
theorem m_laws_eqPt : Meets Try.prog 51 F_laws_eqPt := by
  have h := meets_of (ann := a_laws_eqPt) (ps := [.val true cPt false, .val true cPt false]) (rs := [.val false (.one .bool) true]) g_74 mixed Try.func51 (by kernel_rfl) (by kernel_rfl : Try.f51.body = some (codeOf Try.f51))
  rw [e_laws_eqPt] at h
  exact h
noncomputable def fns_51 : List (FuncId × Fn) := (51, F_laws_eqPt) :: fns_74
theorem g_51 : Good Try.prog ⟨tis, fns_51, [], false⟩ := g_74.cons m_laws_eqPt
noncomputable def laws_eqPtS_l0 (a0 : List Pt) (b1 : List Pt) (i5 : Int) : Option (Int ⊕ (Unit ⊕ Bool)) :=
  cond (decide (i5 < (a0.length : Int)))
    ((at? a0 i5).bind fun x19 =>
    (at? b1 i5).bind fun x23 =>
    (laws_eqPt x19 x23).bind fun t25 =>
    cond (!t25) (some (.inr (.inr false))) (some (.inl (w64 (i5 + 1)))))
    (some (.inr (.inl ())))
noncomputable def laws_eqPtS (a0 : List Pt) (b1 : List Pt) : Option Bool :=
  cond ((a0.length : Int) != (b1.length : Int))
    (some false)
    ((loop (fun z => laws_eqPtS_l0 a0 b1 z) 0).bind (Sum.elim (fun d =>
      some true) (fun r => some r)))
noncomputable def F_laws_eqPtS : Fn := ⟨[.val false (.one (.sl cPt)) false, .val false (.one (.sl cPt)) false], [.val false (.one .bool) true], fun a => laws_eqPtS a.1 a.2⟩
def a_laws_eqPtS : List (Nat × LoopAnn) := [(0, ⟨⟨[(5, false, [.dat (.int .i64)])], []⟩,
    ⟨[], []⟩, some ⟨[(4, false, [.dat .bool])], []⟩⟩)]
theorem e_laws_eqPtS : fnDen ⟨tis, fns_51, [], false⟩ a_laws_eqPtS Try.f30 (codeOf Try.f30) [.val false (.one (.sl cPt)) false, .val false (.one (.sl cPt)) false] [.val false (.one .bool) true] = fun a => laws_eqPtS a.1 a.2 := by kernel_rfl
theorem m_laws_eqPtS : Meets Try.prog 30 F_laws_eqPtS := by
  have h := meets_of (ann := a_laws_eqPtS) (ps := [.val false (.one (.sl cPt)) false, .val false (.one (.sl cPt)) false]) (rs := [.val false (.one .bool) true]) g_51 mixed Try.func30 (by kernel_rfl) (by kernel_rfl : Try.f30.body = some (codeOf Try.f30))
  rw [e_laws_eqPtS] at h
  exact h
noncomputable def fns_30 : List (FuncId × Fn) := (30, F_laws_eqPtS) :: fns_51
theorem g_30 : Good Try.prog ⟨tis, fns_30, [], false⟩ := g_51.cons m_laws_eqPtS
noncomputable def laws_eqFent (a0 : Fent) (b1 : Fent) : Option Bool :=
  cond (a0.1 != b1.1)
    (some false)
    (cond (a0.2.1 != b1.2.1)
      (some false)
      (cond (a0.2.2.1 != b1.2.2.1)
        (some false)
        (cond (a0.2.2.2.1 != b1.2.2.2.1)
          (some false)
          (cond (!(a0.2.2.2.2 == b1.2.2.2.2)) (some false) (some true)))))
noncomputable def F_laws_eqFent : Fn := ⟨[.val true cFent false, .val true cFent false], [.val false (.one .bool) true], fun a => laws_eqFent a.1 a.2⟩
def a_laws_eqFent : List (Nat × LoopAnn) := []
theorem e_laws_eqFent : fnDen ⟨tis, fns_30, [], false⟩ a_laws_eqFent Try.f52 (codeOf Try.f52) [.val true cFent false, .val true cFent false] [.val false (.one .bool) true] = fun a => laws_eqFent a.1 a.2 := by kernel_rfl
theorem m_laws_eqFent : Meets Try.prog 52 F_laws_eqFent := by
  have h := meets_of (ann := a_laws_eqFent) (ps := [.val true cFent false, .val true cFent false]) (rs := [.val false (.one .bool) true]) g_30 mixed Try.func52 (by kernel_rfl) (by kernel_rfl : Try.f52.body = some (codeOf Try.f52))
  rw [e_laws_eqFent] at h
  exact h
noncomputable def fns_52 : List (FuncId × Fn) := (52, F_laws_eqFent) :: fns_30
theorem g_52 : Good Try.prog ⟨tis, fns_52, [], false⟩ := g_30.cons m_laws_eqFent
noncomputable def laws_eqFentS_l0 (a0 : List Fent) (b1 : List Fent) (i5 : Int) : Option (Int ⊕ (Unit ⊕ Bool)) :=
  cond (decide (i5 < (a0.length : Int)))
    ((at? a0 i5).bind fun x19 =>
    (at? b1 i5).bind fun x23 =>
    (laws_eqFent x19 x23).bind fun t25 =>
    cond (!t25) (some (.inr (.inr false))) (some (.inl (w64 (i5 + 1)))))
    (some (.inr (.inl ())))
noncomputable def laws_eqFentS (a0 : List Fent) (b1 : List Fent) : Option Bool :=
  cond ((a0.length : Int) != (b1.length : Int))
    (some false)
    ((loop (fun z => laws_eqFentS_l0 a0 b1 z) 0).bind (Sum.elim (fun d =>
      some true) (fun r => some r)))
noncomputable def F_laws_eqFentS : Fn := ⟨[.val false (.one (.sl cFent)) false, .val false (.one (.sl cFent)) false], [.val false (.one .bool) true], fun a => laws_eqFentS a.1 a.2⟩
def a_laws_eqFentS : List (Nat × LoopAnn) := [(0, ⟨⟨[(5, false, [.dat (.int .i64)])], []⟩,
    ⟨[], []⟩, some ⟨[(4, false, [.dat .bool])], []⟩⟩)]
theorem e_laws_eqFentS : fnDen ⟨tis, fns_52, [], false⟩ a_laws_eqFentS Try.f31 (codeOf Try.f31) [.val false (.one (.sl cFent)) false, .val false (.one (.sl cFent)) false] [.val false (.one .bool) true] = fun a => laws_eqFentS a.1 a.2 := by kernel_rfl
theorem m_laws_eqFentS : Meets Try.prog 31 F_laws_eqFentS := by
  have h := meets_of (ann := a_laws_eqFentS) (ps := [.val false (.one (.sl cFent)) false, .val false (.one (.sl cFent)) false]) (rs := [.val false (.one .bool) true]) g_52 mixed Try.func31 (by kernel_rfl) (by kernel_rfl : Try.f31.body = some (codeOf Try.f31))
  rw [e_laws_eqFentS] at h
  exact h
noncomputable def fns_31 : List (FuncId × Fn) := (31, F_laws_eqFentS) :: fns_52
theorem g_31 : Good Try.prog ⟨tis, fns_31, [], false⟩ := g_52.cons m_laws_eqFentS
noncomputable def laws_eqVrow (a0 : Vrow) (b1 : Vrow) : Option Bool :=
  cond (a0.1 != b1.1)
    (some false)
    (cond (a0.2.1 != b1.2.1) (some false) (cond (a0.2.2 != b1.2.2) (some false) (some true)))
noncomputable def F_laws_eqVrow : Fn := ⟨[.val true cVrow false, .val true cVrow false], [.val false (.one .bool) true], fun a => laws_eqVrow a.1 a.2⟩
def a_laws_eqVrow : List (Nat × LoopAnn) := []
theorem e_laws_eqVrow : fnDen ⟨tis, fns_31, [], false⟩ a_laws_eqVrow Try.f75 (codeOf Try.f75) [.val true cVrow false, .val true cVrow false] [.val false (.one .bool) true] = fun a => laws_eqVrow a.1 a.2 := by kernel_rfl
theorem m_laws_eqVrow : Meets Try.prog 75 F_laws_eqVrow := by
  have h := meets_of (ann := a_laws_eqVrow) (ps := [.val true cVrow false, .val true cVrow false]) (rs := [.val false (.one .bool) true]) g_31 mixed Try.func75 (by kernel_rfl) (by kernel_rfl : Try.f75.body = some (codeOf Try.f75))
  rw [e_laws_eqVrow] at h
  exact h
noncomputable def fns_75 : List (FuncId × Fn) := (75, F_laws_eqVrow) :: fns_31
theorem g_75 : Good Try.prog ⟨tis, fns_75, [], false⟩ := g_31.cons m_laws_eqVrow
noncomputable def laws_eqVrowS_l0 (a0 : List Vrow) (b1 : List Vrow) (i5 : Int) : Option (Int ⊕ (Unit ⊕ Bool)) :=
  cond (decide (i5 < (a0.length : Int)))
    ((at? a0 i5).bind fun x19 =>
    (at? b1 i5).bind fun x23 =>
    (laws_eqVrow x19 x23).bind fun t25 =>
    cond (!t25) (some (.inr (.inr false))) (some (.inl (w64 (i5 + 1)))))
    (some (.inr (.inl ())))
noncomputable def laws_eqVrowS (a0 : List Vrow) (b1 : List Vrow) : Option Bool :=
  cond ((a0.length : Int) != (b1.length : Int))
    (some false)
    ((loop (fun z => laws_eqVrowS_l0 a0 b1 z) 0).bind (Sum.elim (fun d =>
      some true) (fun r => some r)))
noncomputable def F_laws_eqVrowS : Fn := ⟨[.val false (.one (.sl cVrow)) false, .val false (.one (.sl cVrow)) false], [.val false (.one .bool) true], fun a => laws_eqVrowS a.1 a.2⟩
def a_laws_eqVrowS : List (Nat × LoopAnn) := [(0, ⟨⟨[(5, false, [.dat (.int .i64)])], []⟩,
    ⟨[], []⟩, some ⟨[(4, false, [.dat .bool])], []⟩⟩)]
theorem e_laws_eqVrowS : fnDen ⟨tis, fns_75, [], false⟩ a_laws_eqVrowS Try.f53 (codeOf Try.f53) [.val false (.one (.sl cVrow)) false, .val false (.one (.sl cVrow)) false] [.val false (.one .bool) true] = fun a => laws_eqVrowS a.1 a.2 := by kernel_rfl
theorem m_laws_eqVrowS : Meets Try.prog 53 F_laws_eqVrowS := by
  have h := meets_of (ann := a_laws_eqVrowS) (ps := [.val false (.one (.sl cVrow)) false, .val false (.one (.sl cVrow)) false]) (rs := [.val false (.one .bool) true]) g_75 mixed Try.func53 (by kernel_rfl) (by kernel_rfl : Try.f53.body = some (codeOf Try.f53))
  rw [e_laws_eqVrowS] at h
  exact h
noncomputable def fns_53 : List (FuncId × Fn) := (53, F_laws_eqVrowS) :: fns_75
theorem g_53 : Good Try.prog ⟨tis, fns_53, [], false⟩ := g_75.cons m_laws_eqVrowS
noncomputable def laws_eqIntS_l0 (a0 : List Int) (b1 : List Int) (i5 : Int) : Option (Int ⊕ (Unit ⊕ Bool)) :=
  cond (decide (i5 < (a0.length : Int)))
    ((at? a0 i5).bind fun x19 =>
    (at? b1 i5).bind fun x23 =>
    cond (x19 != x23) (some (.inr (.inr false))) (some (.inl (w64 (i5 + 1)))))
    (some (.inr (.inl ())))
noncomputable def laws_eqIntS (a0 : List Int) (b1 : List Int) : Option Bool :=
  cond ((a0.length : Int) != (b1.length : Int))
    (some false)
    ((loop (fun z => laws_eqIntS_l0 a0 b1 z) 0).bind (Sum.elim (fun d =>
      some true) (fun r => some r)))
noncomputable def F_laws_eqIntS : Fn := ⟨[.val false (.one (.sl (.one (.int .i64)))) false, .val false (.one (.sl (.one (.int .i64)))) false], [.val false (.one .bool) true], fun a => laws_eqIntS a.1 a.2⟩
def a_laws_eqIntS : List (Nat × LoopAnn) := [(0, ⟨⟨[(5, false, [.dat (.int .i64)])], []⟩,
    ⟨[], []⟩, some ⟨[(4, false, [.dat .bool])], []⟩⟩)]
theorem e_laws_eqIntS : fnDen ⟨tis, fns_53, [], false⟩ a_laws_eqIntS Try.f54 (codeOf Try.f54) [.val false (.one (.sl (.one (.int .i64)))) false, .val false (.one (.sl (.one (.int .i64)))) false] [.val false (.one .bool) true] = fun a => laws_eqIntS a.1 a.2 := by kernel_rfl
theorem m_laws_eqIntS : Meets Try.prog 54 F_laws_eqIntS := by
  have h := meets_of (ann := a_laws_eqIntS) (ps := [.val false (.one (.sl (.one (.int .i64)))) false, .val false (.one (.sl (.one (.int .i64)))) false]) (rs := [.val false (.one .bool) true]) g_53 mixed Try.func54 (by kernel_rfl) (by kernel_rfl : Try.f54.body = some (codeOf Try.f54))
  rw [e_laws_eqIntS] at h
  exact h
noncomputable def fns_54 : List (FuncId × Fn) := (54, F_laws_eqIntS) :: fns_53
theorem g_54 : Good Try.prog ⟨tis, fns_54, [], false⟩ := g_53.cons m_laws_eqIntS
noncomputable def laws_eqVtab (a0 : Vtab) (b1 : Vtab) : Option Bool :=
  (laws_eqVrowS a0.1 b1.1).bind fun t9 =>
  cond (!t9)
    (some false)
    ((laws_eqIntS a0.2 b1.2).bind fun t15 =>
    cond (!t15) (some false) (some true))
noncomputable def F_laws_eqVtab : Fn := ⟨[.val true cVtab false, .val true cVtab false], [.val false (.one .bool) true], fun a => laws_eqVtab a.1 a.2⟩
def a_laws_eqVtab : List (Nat × LoopAnn) := []
theorem e_laws_eqVtab : fnDen ⟨tis, fns_54, [], false⟩ a_laws_eqVtab Try.f32 (codeOf Try.f32) [.val true cVtab false, .val true cVtab false] [.val false (.one .bool) true] = fun a => laws_eqVtab a.1 a.2 := by kernel_rfl
theorem m_laws_eqVtab : Meets Try.prog 32 F_laws_eqVtab := by
  have h := meets_of (ann := a_laws_eqVtab) (ps := [.val true cVtab false, .val true cVtab false]) (rs := [.val false (.one .bool) true]) g_54 mixed Try.func32 (by kernel_rfl) (by kernel_rfl : Try.f32.body = some (codeOf Try.f32))
  rw [e_laws_eqVtab] at h
  exact h
noncomputable def fns_32 : List (FuncId × Fn) := (32, F_laws_eqVtab) :: fns_54
theorem g_32 : Good Try.prog ⟨tis, fns_32, [], false⟩ := g_54.cons m_laws_eqVtab
noncomputable def laws_eqBridge (a0 : Bridge) (b1 : Bridge) : Option Bool :=
  cond (a0.1 != b1.1)
    (some false)
    (cond (!(a0.2.1 == b1.2.1))
      (some false)
      ((laws_eqPtS a0.2.2.1 b1.2.2.1).bind fun t19 =>
      cond (!t19)
        (some false)
        ((laws_eqFentS a0.2.2.2.1 b1.2.2.2.1).bind fun t25 =>
        cond (!t25)
          (some false)
          ((laws_eqVtab (a0.2.2.2.2.1, a0.2.2.2.2.2.1) (b1.2.2.2.2.1, b1.2.2.2.2.2.1)).bind fun t31 =>
          cond (!t31)
            (some false)
            (cond (a0.2.2.2.2.2.2.1 != b1.2.2.2.2.2.2.1)
              (some false)
              (cond (a0.2.2.2.2.2.2.2.1 != b1.2.2.2.2.2.2.2.1)
                (some false)
                (cond (a0.2.2.2.2.2.2.2.2.1 != b1.2.2.2.2.2.2.2.2.1)
                  (some false)
                  (cond (a0.2.2.2.2.2.2.2.2.2.1 != b1.2.2.2.2.2.2.2.2.2.1)
                    (some false)
                    (cond (a0.2.2.2.2.2.2.2.2.2.2 != b1.2.2.2.2.2.2.2.2.2.2) (some false) (some true))))))))))
noncomputable def F_laws_eqBridge : Fn := ⟨[.val true cBridge false, .val true cBridge false], [.val false (.one .bool) true], fun a => laws_eqBridge a.1 a.2⟩
def a_laws_eqBridge : List (Nat × LoopAnn) := []
theorem e_laws_eqBridge : fnDen ⟨tis, fns_32, [], false⟩ a_laws_eqBridge Try.f15 (codeOf Try.f15) [.val true cBridge false, .val true cBridge false] [.val false (.one .bool) true] = fun a => laws_eqBridge a.1 a.2 := by kernel_rfl
theorem m_laws_eqBridge : Meets Try.prog 15 F_laws_eqBridge := by
  have h := meets_of (ann := a_laws_eqBridge) (ps := [.val true cBridge false, .val true cBridge false]) (rs := [.val false (.one .bool) true]) g_32 mixed Try.func15 (by kernel_rfl) (by kernel_rfl : Try.f15.body = some (codeOf Try.f15))
  rw [e_laws_eqBridge] at h
  exact h
noncomputable def fns_15 : List (FuncId × Fn) := (15, F_laws_eqBridge) :: fns_32
theorem g_15 : Good Try.prog ⟨tis, fns_15, [], false⟩ := g_32.cons m_laws_eqBridge
noncomputable def laws_eqByteS_l0 (a0 : List Int) (b1 : List Int) (i5 : Int) : Option (Int ⊕ (Unit ⊕ Bool)) :=
  cond (decide (i5 < (a0.length : Int)))
    ((at? a0 i5).bind fun x19 =>
    (at? b1 i5).bind fun x23 =>
    cond (x19 != x23) (some (.inr (.inr false))) (some (.inl (w64 (i5 + 1)))))
    (some (.inr (.inl ())))
noncomputable def laws_eqByteS (a0 : List Int) (b1 : List Int) : Option Bool :=
  cond ((a0.length : Int) != (b1.length : Int))
    (some false)
    ((loop (fun z => laws_eqByteS_l0 a0 b1 z) 0).bind (Sum.elim (fun d =>
      some true) (fun r => some r)))
noncomputable def F_laws_eqByteS : Fn := ⟨[.val false (.one (.sl (.one (.int .u8)))) false, .val false (.one (.sl (.one (.int .u8)))) false], [.val false (.one .bool) true], fun a => laws_eqByteS a.1 a.2⟩
def a_laws_eqByteS : List (Nat × LoopAnn) := [(0, ⟨⟨[(5, false, [.dat (.int .i64)])], []⟩,
    ⟨[], []⟩, some ⟨[(4, false, [.dat .bool])], []⟩⟩)]
theorem e_laws_eqByteS : fnDen ⟨tis, fns_15, [], false⟩ a_laws_eqByteS Try.f55 (codeOf Try.f55) [.val false (.one (.sl (.one (.int .u8)))) false, .val false (.one (.sl (.one (.int .u8)))) false] [.val false (.one .bool) true] = fun a => laws_eqByteS a.1 a.2 := by kernel_rfl
theorem m_laws_eqByteS : Meets Try.prog 55 F_laws_eqByteS := by
  have h := meets_of (ann := a_laws_eqByteS) (ps := [.val false (.one (.sl (.one (.int .u8)))) false, .val false (.one (.sl (.one (.int .u8)))) false]) (rs := [.val false (.one .bool) true]) g_15 mixed Try.func55 (by kernel_rfl) (by kernel_rfl : Try.f55.body = some (codeOf Try.f55))
  rw [e_laws_eqByteS] at h
  exact h
noncomputable def fns_55 : List (FuncId × Fn) := (55, F_laws_eqByteS) :: fns_15
theorem g_55 : Good Try.prog ⟨tis, fns_55, [], false⟩ := g_15.cons m_laws_eqByteS
noncomputable def laws_eqVal (a0 : Val) (b1 : Val) : Option Bool :=
  cond (a0.1 != b1.1)
    (some false)
    (cond (a0.2.1 != b1.2.1)
      (some false)
      (cond (!(a0.2.2.1 == b1.2.2.1))
        (some false)
        ((laws_eqIntS a0.2.2.2 b1.2.2.2).bind fun t24 =>
        cond (!t24) (some false) (some true))))
noncomputable def F_laws_eqVal : Fn := ⟨[.val true cVal false, .val true cVal false], [.val false (.one .bool) true], fun a => laws_eqVal a.1 a.2⟩
def a_laws_eqVal : List (Nat × LoopAnn) := []
theorem e_laws_eqVal : fnDen ⟨tis, fns_55, [], false⟩ a_laws_eqVal Try.f96 (codeOf Try.f96) [.val true cVal false, .val true cVal false] [.val false (.one .bool) true] = fun a => laws_eqVal a.1 a.2 := by kernel_rfl
theorem m_laws_eqVal : Meets Try.prog 96 F_laws_eqVal := by
  have h := meets_of (ann := a_laws_eqVal) (ps := [.val true cVal false, .val true cVal false]) (rs := [.val false (.one .bool) true]) g_55 mixed Try.func96 (by kernel_rfl) (by kernel_rfl : Try.f96.body = some (codeOf Try.f96))
  rw [e_laws_eqVal] at h
  exact h
noncomputable def fns_96 : List (FuncId × Fn) := (96, F_laws_eqVal) :: fns_55
theorem g_96 : Good Try.prog ⟨tis, fns_96, [], false⟩ := g_55.cons m_laws_eqVal
noncomputable def laws_eqBind (a0 : Bind) (b1 : Bind) : Option Bool :=
  (laws_eqIntS a0.1 b1.1).bind fun t9 =>
  cond (!t9)
    (some false)
    ((laws_eqVal a0.2 b1.2).bind fun t15 =>
    cond (!t15) (some false) (some true))
noncomputable def F_laws_eqBind : Fn := ⟨[.val true cBind false, .val true cBind false], [.val false (.one .bool) true], fun a => laws_eqBind a.1 a.2⟩
def a_laws_eqBind : List (Nat × LoopAnn) := []
theorem e_laws_eqBind : fnDen ⟨tis, fns_96, [], false⟩ a_laws_eqBind Try.f90 (codeOf Try.f90) [.val true cBind false, .val true cBind false] [.val false (.one .bool) true] = fun a => laws_eqBind a.1 a.2 := by kernel_rfl
theorem m_laws_eqBind : Meets Try.prog 90 F_laws_eqBind := by
  have h := meets_of (ann := a_laws_eqBind) (ps := [.val true cBind false, .val true cBind false]) (rs := [.val false (.one .bool) true]) g_96 mixed Try.func90 (by kernel_rfl) (by kernel_rfl : Try.f90.body = some (codeOf Try.f90))
  rw [e_laws_eqBind] at h
  exact h
noncomputable def fns_90 : List (FuncId × Fn) := (90, F_laws_eqBind) :: fns_96
theorem g_90 : Good Try.prog ⟨tis, fns_90, [], false⟩ := g_96.cons m_laws_eqBind
noncomputable def laws_eqBindS_l0 (a0 : List Bind) (b1 : List Bind) (i5 : Int) : Option (Int ⊕ (Unit ⊕ Bool)) :=
  cond (decide (i5 < (a0.length : Int)))
    ((at? a0 i5).bind fun x19 =>
    (at? b1 i5).bind fun x23 =>
    (laws_eqBind x19 x23).bind fun t25 =>
    cond (!t25) (some (.inr (.inr false))) (some (.inl (w64 (i5 + 1)))))
    (some (.inr (.inl ())))
noncomputable def laws_eqBindS (a0 : List Bind) (b1 : List Bind) : Option Bool :=
  cond ((a0.length : Int) != (b1.length : Int))
    (some false)
    ((loop (fun z => laws_eqBindS_l0 a0 b1 z) 0).bind (Sum.elim (fun d =>
      some true) (fun r => some r)))
noncomputable def F_laws_eqBindS : Fn := ⟨[.val false (.one (.sl cBind)) false, .val false (.one (.sl cBind)) false], [.val false (.one .bool) true], fun a => laws_eqBindS a.1 a.2⟩
def a_laws_eqBindS : List (Nat × LoopAnn) := [(0, ⟨⟨[(5, false, [.dat (.int .i64)])], []⟩,
    ⟨[], []⟩, some ⟨[(4, false, [.dat .bool])], []⟩⟩)]
theorem e_laws_eqBindS : fnDen ⟨tis, fns_90, [], false⟩ a_laws_eqBindS Try.f76 (codeOf Try.f76) [.val false (.one (.sl cBind)) false, .val false (.one (.sl cBind)) false] [.val false (.one .bool) true] = fun a => laws_eqBindS a.1 a.2 := by kernel_rfl
theorem m_laws_eqBindS : Meets Try.prog 76 F_laws_eqBindS := by
  have h := meets_of (ann := a_laws_eqBindS) (ps := [.val false (.one (.sl cBind)) false, .val false (.one (.sl cBind)) false]) (rs := [.val false (.one .bool) true]) g_90 mixed Try.func76 (by kernel_rfl) (by kernel_rfl : Try.f76.body = some (codeOf Try.f76))
  rw [e_laws_eqBindS] at h
  exact h
noncomputable def fns_76 : List (FuncId × Fn) := (76, F_laws_eqBindS) :: fns_90
theorem g_76 : Good Try.prog ⟨tis, fns_76, [], false⟩ := g_90.cons m_laws_eqBindS
noncomputable def laws_eqPdu (a0 : Pdu) (b1 : Pdu) : Option Bool :=
  cond (a0.1 != b1.1)
    (some false)
    (cond (a0.2.1 != b1.2.1)
      (some false)
      (cond (a0.2.2.1 != b1.2.2.1)
        (some false)
        (cond (a0.2.2.2.1 != b1.2.2.2.1)
          (some false)
          ((laws_eqBindS a0.2.2.2.2 b1.2.2.2.2).bind fun t29 =>
          cond (!t29) (some false) (some true)))))
noncomputable def F_laws_eqPdu : Fn := ⟨[.val true cPdu false, .val true cPdu false], [.val false (.one .bool) true], fun a => laws_eqPdu a.1 a.2⟩
def a_laws_eqPdu : List (Nat × LoopAnn) := []
theorem e_laws_eqPdu : fnDen ⟨tis, fns_76, [], false⟩ a_laws_eqPdu Try.f56 (codeOf Try.f56) [.val true cPdu false, .val true cPdu false] [.val false (.one .bool) true] = fun a => laws_eqPdu a.1 a.2 := by kernel_rfl
theorem m_laws_eqPdu : Meets Try.prog 56 F_laws_eqPdu := by
  have h := meets_of (ann := a_laws_eqPdu) (ps := [.val true cPdu false, .val true cPdu false]) (rs := [.val false (.one .bool) true]) g_76 mixed Try.func56 (by kernel_rfl) (by kernel_rfl : Try.f56.body = some (codeOf Try.f56))
  rw [e_laws_eqPdu] at h
  exact h
noncomputable def fns_56 : List (FuncId × Fn) := (56, F_laws_eqPdu) :: fns_76
theorem g_56 : Good Try.prog ⟨tis, fns_56, [], false⟩ := g_76.cons m_laws_eqPdu
noncomputable def laws_eqJob (a0 : Job) (b1 : Job) : Option Bool :=
  cond (a0.1 != b1.1)
    (some false)
    ((laws_eqByteS a0.2.1 b1.2.1).bind fun t14 =>
    cond (!t14)
      (some false)
      (cond (a0.2.2.1 != b1.2.2.1)
        (some false)
        ((laws_eqPdu (a0.2.2.2.1, a0.2.2.2.2.1, a0.2.2.2.2.2.1, a0.2.2.2.2.2.2.1, a0.2.2.2.2.2.2.2.1) (b1.2.2.2.1, b1.2.2.2.2.1, b1.2.2.2.2.2.1, b1.2.2.2.2.2.2.1, b1.2.2.2.2.2.2.2.1)).bind fun t25 =>
        cond (!t25)
          (some false)
          ((laws_eqBridge (a0.2.2.2.2.2.2.2.2.1, a0.2.2.2.2.2.2.2.2.2.1, a0.2.2.2.2.2.2.2.2.2.2.1, a0.2.2.2.2.2.2.2.2.2.2.2.1, a0.2.2.2.2.2.2.2.2.2.2.2.2.1, a0.2.2.2.2.2.2.2.2.2.2.2.2.2.1, a0.2.2.2.2.2.2.2.2.2.2.2.2.2.2.1, a0.2.2.2.2.2.2.2.2.2.2.2.2.2.2.2.1, a0.2.2.2.2.2.2.2.2.2.2.2.2.2.2.2.2.1, a0.2.2.2.2.2.2.2.2.2.2.2.2.2.2.2.2.2.1, a0.2.2.2.2.2.2.2.2.2.2.2.2.2.2.2.2.2.2.1) (b1.2.2.2.2.2.2.2.2.1, b1.2.2.2.2.2.2.2.2.2.1, b1.2.2.2.2.2.2.2.2.2.2.1, b1.2.2.2.2.2.2.2.2.2.2.2.1, b1.2.2.2.2.2.2.2.2.2.2.2.2.1, b1.2.2.2.2.2.2.2.2.2.2.2.2.2.1, b1.2.2.2.2.2.2.2.2.2.2.2.2.2.2.1, b1.2.2.2.2.2.2.2.2.2.2.2.2.2.2.2.1, b1.2.2.2.2.2.2.2.2.2.2.2.2.2.2.2.2.1, b1.2.2.2.2.2.2.2.2.2.2.2.2.2.2.2.2.2.1, b1.2.2.2.2.2.2.2.2.2.2.2.2.2.2.2.2.2.2.1)).bind fun t31 =>
          cond (!t31)
            (some false)
            (cond (a0.2.2.2.2.2.2.2.2.2.2.2.2.2.2.2.2.2.2.2.1 != b1.2.2.2.2.2.2.2.2.2.2.2.2.2.2.2.2.2.2.2.1)
              (some false)
              (cond (a0.2.2.2.2.2.2.2.2.2.2.2.2.2.2.2.2.2.2.2.2 != b1.2.2.2.2.2.2.2.2.2.2.2.2.2.2.2.2.2.2.2.2) (some false) (some true)))))))
noncomputable def F_laws_eqJob : Fn := ⟨[.val true cJob false, .val true cJob false], [.val false (.one .bool) true], fun a => laws_eqJob a.1 a.2⟩
def a_laws_eqJob : List (Nat × LoopAnn) := []
theorem e_laws_eqJob : fnDen ⟨tis, fns_56, [], false⟩ a_laws_eqJob Try.f33 (codeOf Try.f33) [.val true cJob false, .val true cJob false] [.val false (.one .bool) true] = fun a => laws_eqJob a.1 a.2 := by kernel_rfl
theorem m_laws_eqJob : Meets Try.prog 33 F_laws_eqJob := by
  have h := meets_of (ann := a_laws_eqJob) (ps := [.val true cJob false, .val true cJob false]) (rs := [.val false (.one .bool) true]) g_56 mixed Try.func33 (by kernel_rfl) (by kernel_rfl : Try.f33.body = some (codeOf Try.f33))
  rw [e_laws_eqJob] at h
  exact h
noncomputable def fns_33 : List (FuncId × Fn) := (33, F_laws_eqJob) :: fns_56
theorem g_33 : Good Try.prog ⟨tis, fns_33, [], false⟩ := g_56.cons m_laws_eqJob
noncomputable def laws_eqJobS_l0 (a0 : List Job) (b1 : List Job) (i5 : Int) : Option (Int ⊕ (Unit ⊕ Bool)) :=
  cond (decide (i5 < (a0.length : Int)))
    ((at? a0 i5).bind fun x19 =>
    (at? b1 i5).bind fun x23 =>
    (laws_eqJob x19 x23).bind fun t25 =>
    cond (!t25) (some (.inr (.inr false))) (some (.inl (w64 (i5 + 1)))))
    (some (.inr (.inl ())))
noncomputable def laws_eqJobS (a0 : List Job) (b1 : List Job) : Option Bool :=
  cond ((a0.length : Int) != (b1.length : Int))
    (some false)
    ((loop (fun z => laws_eqJobS_l0 a0 b1 z) 0).bind (Sum.elim (fun d =>
      some true) (fun r => some r)))
noncomputable def F_laws_eqJobS : Fn := ⟨[.val false (.one (.sl cJob)) false, .val false (.one (.sl cJob)) false], [.val false (.one .bool) true], fun a => laws_eqJobS a.1 a.2⟩
def a_laws_eqJobS : List (Nat × LoopAnn) := [(0, ⟨⟨[(5, false, [.dat (.int .i64)])], []⟩,
    ⟨[], []⟩, some ⟨[(4, false, [.dat .bool])], []⟩⟩)]
theorem e_laws_eqJobS : fnDen ⟨tis, fns_33, [], false⟩ a_laws_eqJobS Try.f16 (codeOf Try.f16) [.val false (.one (.sl cJob)) false, .val false (.one (.sl cJob)) false] [.val false (.one .bool) true] = fun a => laws_eqJobS a.1 a.2 := by kernel_rfl
theorem m_laws_eqJobS : Meets Try.prog 16 F_laws_eqJobS := by
  have h := meets_of (ann := a_laws_eqJobS) (ps := [.val false (.one (.sl cJob)) false, .val false (.one (.sl cJob)) false]) (rs := [.val false (.one .bool) true]) g_33 mixed Try.func16 (by kernel_rfl) (by kernel_rfl : Try.f16.body = some (codeOf Try.f16))
  rw [e_laws_eqJobS] at h
  exact h
noncomputable def fns_16 : List (FuncId × Fn) := (16, F_laws_eqJobS) :: fns_33
theorem g_16 : Good Try.prog ⟨tis, fns_16, [], false⟩ := g_33.cons m_laws_eqJobS
noncomputable def laws_eqAgent (a0 : Agent) (b1 : Agent) : Option Bool :=
  (laws_eqBridge (a0.1, a0.2.1, a0.2.2.1, a0.2.2.2.1, a0.2.2.2.2.1, a0.2.2.2.2.2.1, a0.2.2.2.2.2.2.1, a0.2.2.2.2.2.2.2.1, a0.2.2.2.2.2.2.2.2.1, a0.2.2.2.2.2.2.2.2.2.1, a0.2.2.2.2.2.2.2.2.2.2.1) (b1.1, b1.2.1, b1.2.2.1, b1.2.2.2.1, b1.2.2.2.2.1, b1.2.2.2.2.2.1, b1.2.2.2.2.2.2.1, b1.2.2.2.2.2.2.2.1, b1.2.2.2.2.2.2.2.2.1, b1.2.2.2.2.2.2.2.2.2.1, b1.2.2.2.2.2.2.2.2.2.2.1)).bind fun t9 =>
  cond (!t9)
    (some false)
    (cond (!(a0.2.2.2.2.2.2.2.2.2.2.2.1 == b1.2.2.2.2.2.2.2.2.2.2.2.1))
      (some false)
      ((laws_eqJobS a0.2.2.2.2.2.2.2.2.2.2.2.2.1 b1.2.2.2.2.2.2.2.2.2.2.2.2.1).bind fun t20 =>
      cond (!t20)
        (some false)
        (cond (a0.2.2.2.2.2.2.2.2.2.2.2.2.2.1 != b1.2.2.2.2.2.2.2.2.2.2.2.2.2.1)
          (some false)
          (cond (a0.2.2.2.2.2.2.2.2.2.2.2.2.2.2 != b1.2.2.2.2.2.2.2.2.2.2.2.2.2.2) (some false) (some true)))))
noncomputable def F_laws_eqAgent : Fn := ⟨[.val true cAgent false, .val true cAgent false], [.val false (.one .bool) true], fun a => laws_eqAgent a.1 a.2⟩
def a_laws_eqAgent : List (Nat × LoopAnn) := []
theorem e_laws_eqAgent : fnDen ⟨tis, fns_16, [], false⟩ a_laws_eqAgent Try.f8 (codeOf Try.f8) [.val true cAgent false, .val true cAgent false] [.val false (.one .bool) true] = fun a => laws_eqAgent a.1 a.2 := by kernel_rfl
theorem m_laws_eqAgent : Meets Try.prog 8 F_laws_eqAgent := by
  have h := meets_of (ann := a_laws_eqAgent) (ps := [.val true cAgent false, .val true cAgent false]) (rs := [.val false (.one .bool) true]) g_16 mixed Try.func8 (by kernel_rfl) (by kernel_rfl : Try.f8.body = some (codeOf Try.f8))
  rw [e_laws_eqAgent] at h
  exact h
noncomputable def fns_8 : List (FuncId × Fn) := (8, F_laws_eqAgent) :: fns_16
theorem g_8 : Good Try.prog ⟨tis, fns_8, [], false⟩ := g_16.cons m_laws_eqAgent
noncomputable def laws_FnExactAnswersOf (aA0 : Agent) : Option Bool :=
  (laws_szAgent aA0 1048576).bind fun t9 =>
  cond (decide (t9 < 0))
    (some true)
    ((laws_toAgent aA0).bind fun t13 =>
    (spec_AnswersOf t13).bind fun t14 =>
    (laws_toAgent aA0).bind fun t16 =>
    (impl_AnswersOf t16).bind fun t18 =>
    cond (t18 != t14)
      (some false)
      ((laws_toAgent aA0).bind fun t24 =>
      (laws_eqAgent t16 t24).bind fun t25 =>
      cond (!t25) (some false) (some true)))
noncomputable def F_laws_FnExactAnswersOf : Fn := ⟨[.val true cAgent false], [.val false (.one .bool) true], fun a => laws_FnExactAnswersOf a⟩
def a_laws_FnExactAnswersOf : List (Nat × LoopAnn) := []
theorem e_laws_FnExactAnswersOf : fnDen ⟨tis, fns_8, [], false⟩ a_laws_FnExactAnswersOf Try.f3 (codeOf Try.f3) [.val true cAgent false] [.val false (.one .bool) true] = fun a => laws_FnExactAnswersOf a := by kernel_rfl
theorem m_laws_FnExactAnswersOf : Meets Try.prog 3 F_laws_FnExactAnswersOf := by
  have h := meets_of (ann := a_laws_FnExactAnswersOf) (ps := [.val true cAgent false]) (rs := [.val false (.one .bool) true]) g_8 mixed Try.func3 (by kernel_rfl) (by kernel_rfl : Try.f3.body = some (codeOf Try.f3))
  rw [e_laws_FnExactAnswersOf] at h
  exact h
noncomputable def fns_3 : List (FuncId × Fn) := (3, F_laws_FnExactAnswersOf) :: fns_8
theorem g_3 : Good Try.prog ⟨tis, fns_3, [], false⟩ := g_8.cons m_laws_FnExactAnswersOf
end Go.V.W
