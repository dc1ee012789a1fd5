/- The law FnExactAgentOk: part of the proof that for every input it returns true. No condition. -/
import Derived.Test.YtnmjjciilpjkbaaV3
import Derived.Test.YtnmjjciilpjkbaaProg
import Derived.Test.YtnmjjciilpjkbaaChecked
import Derived.KernelRfl
namespace Go.V.W
open Go.Proofs
set_option linter.unusedVariables false
@[reducible] def cVec : Cs := .cons (.int .i64) (.cons (.int .i64) (.cons (.int .i64) (.cons (.int .i64) (.one (.int .i64)))))
@[reducible] def cPt : Cs := .cons .bool (.cons (.int .i64) (.cons .bool (.cons (.int .i64) (.cons (.int .i64) (.cons (.int .i64) (.cons (.int .i64) (.one (.int .i64))))))))
@[reducible] def cFent : Cs := .cons (.int .i64) (.cons (.int .i64) (.cons (.int .i64) (.cons (.int .i64) (.one .bool))))
@[reducible] def cVrow : Cs := .cons (.int .i64) (.cons (.int .i64) (.one (.int .i64)))
@[reducible] def cVtab : Cs := .cons (.sl cVrow) (.one (.sl (.one (.int .i64))))
@[reducible] def cBridge : Cs := .cons (.int .i64) (.cons .str (.cons (.sl cPt) (.cons (.sl cFent) (.cons (.sl cVrow) (.cons (.sl (.one (.int .i64))) (.cons (.int .i64) (.cons (.int .i64) (.cons (.int .i64) (.cons (.int .i64) (.one (.int .i64)))))))))))
@[reducible] def cVal : Cs := .cons (.int .i64) (.cons (.int .i64) (.cons .str (.one (.sl (.one (.int .i64))))))
@[reducible] def cBind : Cs := .cons (.sl (.one (.int .i64))) (.cons (.int .i64) (.cons (.int .i64) (.cons .str (.one (.sl (.one (.int .i64)))))))
@[reducible] def cPdu : Cs := .cons (.int .i64) (.cons (.int .i64) (.cons (.int .i64) (.cons (.int .i64) (.one (.sl cBind)))))
@[reducible] def cJob : Cs := .cons (.int .i64) (.cons (.sl (.one (.int .u8))) (.cons (.int .i64) (.cons (.int .i64) (.cons (.int .i64) (.cons (.int .i64) (.cons (.int .i64) (.cons (.sl cBind) (.cons (.int .i64) (.cons .str (.cons (.sl cPt) (.cons (.sl cFent) (.cons (.sl cVrow) (.cons (.sl (.one (.int .i64))) (.cons (.int .i64) (.cons (.int .i64) (.cons (.int .i64) (.cons (.int .i64) (.cons (.int .i64) (.cons (.int .i64) (.one (.int .i64)))))))))))))))))))))
@[reducible] def cAgent : Cs := .cons (.int .i64) (.cons .str (.cons (.sl cPt) (.cons (.sl cFent) (.cons (.sl cVrow) (.cons (.sl (.one (.int .i64))) (.cons (.int .i64) (.cons (.int .i64) (.cons (.int .i64) (.cons (.int .i64) (.cons (.int .i64) (.cons .str (.cons (.sl cJob) (.cons (.int .i64) (.one (.int .i64)))))))))))))))
abbrev Vec : Type := Int × Int × Int × Int × Int
abbrev Pt : Type := Bool × Int × Bool × Int × Int × Int × Int × Int
abbrev Fent : Type := Int × Int × Int × Int × Bool
abbrev Vrow : Type := Int × Int × Int
abbrev Vtab : Type := List Vrow × List Int
abbrev Bridge : Type := Int × List UInt8 × List Pt × List Fent × List Vrow × List Int × Int × Int × Int × Int × Int
abbrev Val : Type := Int × Int × List UInt8 × List Int
abbrev Bind : Type := List Int × Int × Int × List UInt8 × List Int
abbrev Pdu : Type := Int × Int × Int × Int × List Bind
abbrev Job : Type := Int × List Int × Int × Int × Int × Int × Int × List Bind × Int × List UInt8 × List Pt × List Fent × List Vrow × List Int × Int × Int × Int × Int × Int × Int × Int
abbrev Agent : Type := Int × List UInt8 × List Pt × List Fent × List Vrow × List Int × Int × Int × Int × Int × Int × List UInt8 × List Job × Int × Int
def tis : List (Nat × TInfo) := [(2, ⟨false, .one (.int .i64), [], 0⟩),
  (3, ⟨false, .one (.int .i64), [], 0⟩),
  (4, ⟨false, .one .bool, [], 0⟩),
  (5, ⟨false, .one (.int .u8), [], 0⟩),
  (6, ⟨false, .one (.int .u8), [], 0⟩),
  (9, ⟨false, .one .str, [], 0⟩),
  (10, ⟨false, .one .str, [], 0⟩),
  (11, ⟨false, .one .str, [], 0⟩),
  (12, ⟨false, .one (.int .u64), [], 0⟩),
  (21, ⟨false, .one (.int .i32), [], 0⟩),
  (22, ⟨false, .one (.sl cPt), [], 172⟩),
  (23, ⟨false, .one (.sl cFent), [], 174⟩),
  (24, ⟨false, .one (.sl cVrow), [], 237⟩),
  (25, ⟨false, .one (.sl (.one (.int .i64))), [], 3⟩),
  (26, ⟨true, cVtab, [(24, 0), (25, 1)], 0⟩),
  (27, ⟨true, cVtab, [(24, 0), (25, 1)], 0⟩),
  (28, ⟨true, cBridge, [(3, 0), (9, 1), (22, 2), (23, 3), (27, 4), (3, 6), (3, 7), (3, 8), (3, 9), (3, 10)], 0⟩),
  (29, ⟨true, cBridge, [(3, 0), (9, 1), (22, 2), (23, 3), (27, 4), (3, 6), (3, 7), (3, 8), (3, 9), (3, 10)], 0⟩),
  (32, ⟨false, .one (.sl cPt), [], 125⟩),
  (33, ⟨false, .one (.sl cFent), [], 127⟩),
  (34, ⟨false, .one (.sl cVrow), [], 167⟩),
  (35, ⟨true, cVtab, [(34, 0), (25, 1)], 0⟩),
  (36, ⟨true, cVtab, [(34, 0), (25, 1)], 0⟩),
  (37, ⟨true, cBridge, [(3, 0), (9, 1), (32, 2), (33, 3), (36, 4), (3, 6), (3, 7), (3, 8), (3, 9), (3, 10)], 0⟩),
  (38, ⟨true, cBridge, [(3, 0), (9, 1), (32, 2), (33, 3), (36, 4), (3, 6), (3, 7), (3, 8), (3, 9), (3, 10)], 0⟩),
  (44, ⟨false, .one (.sl (.one (.int .u8))), [], 5⟩),
  (50, ⟨true, cVal, [(3, 0), (3, 1), (9, 2), (25, 3)], 0⟩),
  (51, ⟨true, cVal, [(3, 0), (3, 1), (9, 2), (25, 3)], 0⟩),
  (52, ⟨true, cBind, [(25, 0), (51, 1)], 0⟩),
  (53, ⟨true, cBind, [(25, 0), (51, 1)], 0⟩),
  (55, ⟨false, .one (.sl cBridge), [], 29⟩),
  (56, ⟨false, .one (.sl (.cons (.int .i64) (.cons (.int .i64) (.cons (.int .i64) (.one (.int .i64)))))), [], 206⟩),
  (57, ⟨false, .one (.sl (.cons (.int .i64) (.cons .bool (.cons (.int .i64) (.cons (.int .i64) (.cons (.int .i64) (.cons (.int .i64) (.one (.int .i64))))))))), [], 211⟩),
  (58, ⟨true, .cons (.sl cBridge) (.cons (.sl (.cons (.int .i64) (.cons (.int .i64) (.cons (.int .i64) (.one (.int .i64)))))) (.one (.sl (.cons (.int .i64) (.cons .bool (.cons (.int .i64) (.cons (.int .i64) (.cons (.int .i64) (.cons (.int .i64) (.one (.int .i64))))))))))), [(55, 0), (56, 1), (57, 2)], 0⟩),
  (59, ⟨true, .cons (.sl cBridge) (.cons (.sl (.cons (.int .i64) (.cons (.int .i64) (.cons (.int .i64) (.one (.int .i64)))))) (.one (.sl (.cons (.int .i64) (.cons .bool (.cons (.int .i64) (.cons (.int .i64) (.cons (.int .i64) (.cons (.int .i64) (.one (.int .i64))))))))))), [(55, 0), (56, 1), (57, 2)], 0⟩),
  (62, ⟨false, .one (.sl cBridge), [], 38⟩),
  (63, ⟨false, .one (.sl (.cons (.int .i64) (.cons (.int .i64) (.cons (.int .i64) (.one (.int .i64)))))), [], 204⟩),
  (64, ⟨false, .one (.sl (.cons (.int .i64) (.cons .bool (.cons (.int .i64) (.cons (.int .i64) (.cons (.int .i64) (.cons (.int .i64) (.one (.int .i64))))))))), [], 208⟩),
  (65, ⟨true, .cons (.sl cBridge) (.cons (.sl (.cons (.int .i64) (.cons (.int .i64) (.cons (.int .i64) (.one (.int .i64)))))) (.one (.sl (.cons (.int .i64) (.cons .bool (.cons (.int .i64) (.cons (.int .i64) (.cons (.int .i64) (.cons (.int .i64) (.one (.int .i64))))))))))), [(62, 0), (63, 1), (64, 2)], 0⟩),
  (66, ⟨true, .cons (.sl cBridge) (.cons (.sl (.cons (.int .i64) (.cons (.int .i64) (.cons (.int .i64) (.one (.int .i64)))))) (.one (.sl (.cons (.int .i64) (.cons .bool (.cons (.int .i64) (.cons (.int .i64) (.cons (.int .i64) (.cons (.int .i64) (.one (.int .i64))))))))))), [(62, 0), (63, 1), (64, 2)], 0⟩),
  (75, ⟨false, .one (.sl cBind), [], 53⟩),
  (78, ⟨false, .one (.sl cJob), [], 227⟩),
  (79, ⟨true, cAgent, [(29, 0), (9, 11), (78, 12), (3, 13), (3, 14)], 0⟩),
  (80, ⟨true, cAgent, [(29, 0), (9, 11), (78, 12), (3, 13), (3, 14)], 0⟩),
  (83, ⟨false, .one (.sl cJob), [], 150⟩),
  (84, ⟨true, cAgent, [(38, 0), (9, 11), (83, 12), (3, 13), (3, 14)], 0⟩),
  (85, ⟨true, cAgent, [(38, 0), (9, 11), (83, 12), (3, 13), (3, 14)], 0⟩),
  (96, ⟨true, cVal, [(3, 0), (3, 1), (9, 2), (25, 3)], 0⟩),
  (97, ⟨true, cBind, [(25, 0), (96, 1)], 0⟩),
  (98, ⟨true, cBind, [(25, 0), (96, 1)], 0⟩),
  (122, ⟨true, cVec, [(3, 0), (3, 1), (3, 2), (3, 3), (3, 4)], 0⟩),
  (123, ⟨true, cVec, [(3, 0), (3, 1), (3, 2), (3, 3), (3, 4)], 0⟩),
  (124, ⟨true, cPt, [(4, 0), (3, 1), (4, 2), (123, 3)], 0⟩),
  (125, ⟨true, cPt, [(4, 0), (3, 1), (4, 2), (123, 3)], 0⟩),
  (126, ⟨true, cFent, [(3, 0), (3, 1), (3, 2), (3, 3), (4, 4)], 0⟩),
  (127, ⟨true, cFent, [(3, 0), (3, 1), (3, 2), (3, 3), (4, 4)], 0⟩),
  (147, ⟨true, cPdu, [(3, 0), (3, 1), (3, 2), (3, 3), (75, 4)], 0⟩),
  (148, ⟨true, cPdu, [(3, 0), (3, 1), (3, 2), (3, 3), (75, 4)], 0⟩),
  (149, ⟨true, cJob, [(3, 0), (44, 1), (3, 2), (148, 3), (38, 8), (3, 19), (3, 20)], 0⟩),
  (150, ⟨true, cJob, [(3, 0), (44, 1), (3, 2), (148, 3), (38, 8), (3, 19), (3, 20)], 0⟩),
  (166, ⟨true, cVrow, [(3, 0), (3, 1), (3, 2)], 0⟩),
  (167, ⟨true, cVrow, [(3, 0), (3, 1), (3, 2)], 0⟩),
  (170, ⟨true, cVec, [(3, 0), (3, 1), (3, 2), (3, 3), (3, 4)], 0⟩),
  (171, ⟨true, cPt, [(4, 0), (3, 1), (4, 2), (170, 3)], 0⟩),
  (172, ⟨true, cPt, [(4, 0), (3, 1), (4, 2), (170, 3)], 0⟩),
  (174, ⟨true, cFent, [(3, 0), (3, 1), (3, 2), (3, 3), (4, 4)], 0⟩),
  (180, ⟨true, .cons (.sl (.one (.int .u8))) (.cons (.int .i64) (.one (.int .i64))), [(44, 0), (3, 1), (3, 2)], 0⟩),
  (181, ⟨true, .cons (.sl (.one (.int .u8))) (.cons (.int .i64) (.one (.int .i64))), [(44, 0), (3, 1), (3, 2)], 0⟩),
  (184, ⟨false, .one (.sl (.one .str)), [], 9⟩),
  (203, ⟨true, .cons (.int .i64) (.cons (.int .i64) (.cons (.int .i64) (.one (.int .i64)))), [(3, 0), (3, 1), (3, 2), (3, 3)], 0⟩),
  (204, ⟨true, .cons (.int .i64) (.cons (.int .i64) (.cons (.int .i64) (.one (.int .i64)))), [(3, 0), (3, 1), (3, 2), (3, 3)], 0⟩),
  (206, ⟨true, .cons (.int .i64) (.cons (.int .i64) (.cons (.int .i64) (.one (.int .i64)))), [(3, 0), (3, 1), (3, 2), (3, 3)], 0⟩),
  (207, ⟨true, .cons (.int .i64) (.cons .bool (.cons (.int .i64) (.cons (.int .i64) (.cons (.int .i64) (.cons (.int .i64) (.one (.int .i64))))))), [(3, 0), (4, 1), (123, 2)], 0⟩),
  (208, ⟨true, .cons (.int .i64) (.cons .bool (.cons (.int .i64) (.cons (.int .i64) (.cons (.int .i64) (.cons (.int .i64) (.one (.int .i64))))))), [(3, 0), (4, 1), (123, 2)], 0⟩),
  (210, ⟨true, .cons (.int .i64) (.cons .bool (.cons (.int .i64) (.cons (.int .i64) (.cons (.int .i64) (.cons (.int .i64) (.one (.int .i64))))))), [(3, 0), (4, 1), (170, 2)], 0⟩),
  (211, ⟨true, .cons (.int .i64) (.cons .bool (.cons (.int .i64) (.cons (.int .i64) (.cons (.int .i64) (.cons (.int .i64) (.one (.int .i64))))))), [(3, 0), (4, 1), (170, 2)], 0⟩),
  (217, ⟨false, .one (.sl (.one .bool)), [], 4⟩),
  (223, ⟨false, .one (.sl cBind), [], 98⟩),
  (224, ⟨true, cPdu, [(3, 0), (3, 1), (3, 2), (3, 3), (223, 4)], 0⟩),
  (225, ⟨true, cPdu, [(3, 0), (3, 1), (3, 2), (3, 3), (223, 4)], 0⟩),
  (226, ⟨true, cJob, [(3, 0), (44, 1), (3, 2), (225, 3), (29, 8), (3, 19), (3, 20)], 0⟩),
  (227, ⟨true, cJob, [(3, 0), (44, 1), (3, 2), (225, 3), (29, 8), (3, 19), (3, 20)], 0⟩),
  (237, ⟨true, cVrow, [(3, 0), (3, 1), (3, 2)], 0⟩),
  (265, ⟨false, .one (.int .u64), [], 0⟩),
  (288, ⟨false, .one (.int .u32), [], 0⟩),
  (289, ⟨false, .one (.int .u8), [], 0⟩),
  (290, ⟨false, .one (.int .u8), [], 0⟩),
  (293, ⟨false, .one (.int .i32), [], 0⟩),
  (294, ⟨false, .one (.int .i32), [], 0⟩)]
theorem tisT : Tis Try.prog tis := Tis.of_all (by kernel_rfl)
theorem tisE : Eqs Try.prog tis := Eqs.of_all (by kernel_rfl)
theorem tisD : Deep Try.prog tis := Deep.of_all (by kernel_rfl)
theorem mixed : Try.prog.follows .mixedOrders = true := by kernel_rfl
def codeOf (fn : Func) : Code := match fn.body with | some c => c | none => .skip
theorem g_0 : Good Try.prog ⟨tis, []⟩ := ⟨tisT, tisE, fun f F h => by cases h⟩
noncomputable def laws_szPtS (a0 : List Pt) (left1 : Int) : Option Int :=
  let left1_1 := w64 (left1 - (a0.length : Int))
  cond (decide (left1_1 < 0)) (some (-1)) (some left1_1)
noncomputable def F_laws_szPtS : Fn := ⟨[.val false (.one (.sl cPt)) false, .val false (.one (.int .i64)) false], [.val false (.one (.int .i64)) true], fun a => laws_szPtS a.1 a.2⟩
def a_laws_szPtS : List (Nat × LoopAnn) := []
theorem e_laws_szPtS : fnDen ⟨tis, []⟩ a_laws_szPtS Try.f64 (codeOf Try.f64) [.val false (.one (.sl cPt)) false, .val false (.one (.int .i64)) false] [.val false (.one (.int .i64)) true] = fun a => laws_szPtS a.1 a.2 := by kernel_rfl
theorem m_laws_szPtS : Meets Try.prog 64 F_laws_szPtS := by
  have h := meets_of (ann := a_laws_szPtS) (ps := [.val false (.one (.sl cPt)) false, .val false (.one (.int .i64)) false]) (rs := [.val false (.one (.int .i64)) true]) g_0 mixed Try.func64 (by kernel_rfl) (by kernel_rfl : Try.f64.body = some (codeOf Try.f64))
  rw [e_laws_szPtS] at h
  exact h
noncomputable def fns_64 : List (FuncId × Fn) := (64, F_laws_szPtS) :: []
theorem g_64 : Good Try.prog ⟨tis, fns_64⟩ := g_0.cons m_laws_szPtS
noncomputable def laws_szFentS (a0 : List Fent) (left1 : Int) : Option Int :=
  let left1_1 := w64 (left1 - (a0.length : Int))
  cond (decide (left1_1 < 0)) (some (-1)) (some left1_1)
noncomputable def F_laws_szFentS : Fn := ⟨[.val false (.one (.sl cFent)) false, .val false (.one (.int .i64)) false], [.val false (.one (.int .i64)) true], fun a => laws_szFentS a.1 a.2⟩
def a_laws_szFentS : List (Nat × LoopAnn) := []
theorem e_laws_szFentS : fnDen ⟨tis, fns_64⟩ a_laws_szFentS Try.f65 (codeOf Try.f65) [.val false (.one (.sl cFent)) false, .val false (.one (.int .i64)) false] [.val false (.one (.int .i64)) true] = fun a => laws_szFentS a.1 a.2 := by kernel_rfl
theorem m_laws_szFentS : Meets Try.prog 65 F_laws_szFentS := by
  have h := meets_of (ann := a_laws_szFentS) (ps := [.val false (.one (.sl cFent)) false, .val false (.one (.int .i64)) false]) (rs := [.val false (.one (.int .i64)) true]) g_64 mixed Try.func65 (by kernel_rfl) (by kernel_rfl : Try.f65.body = some (codeOf Try.f65))
  rw [e_laws_szFentS] at h
  exact h
noncomputable def fns_65 : List (FuncId × Fn) := (65, F_laws_szFentS) :: fns_64
theorem g_65 : Good Try.prog ⟨tis, fns_65⟩ := g_64.cons m_laws_szFentS
noncomputable def laws_szIntS (a0 : List Int) (left1 : Int) : Option Int :=
  let left1_1 := w64 (left1 - (a0.length : Int))
  cond (decide (left1_1 < 0)) (some (-1)) (some left1_1)
noncomputable def F_laws_szIntS : Fn := ⟨[.val false (.one (.sl (.one (.int .i64)))) false, .val false (.one (.int .i64)) false], [.val false (.one (.int .i64)) true], fun a => laws_szIntS a.1 a.2⟩
def a_laws_szIntS : List (Nat × LoopAnn) := []
theorem e_laws_szIntS : fnDen ⟨tis, fns_65⟩ a_laws_szIntS Try.f129 (codeOf Try.f129) [.val false (.one (.sl (.one (.int .i64)))) false, .val false (.one (.int .i64)) false] [.val false (.one (.int .i64)) true] = fun a => laws_szIntS a.1 a.2 := by kernel_rfl
theorem m_laws_szIntS : Meets Try.prog 129 F_laws_szIntS := by
  have h := meets_of (ann := a_laws_szIntS) (ps := [.val false (.one (.sl (.one (.int .i64)))) false, .val false (.one (.int .i64)) false]) (rs := [.val false (.one (.int .i64)) true]) g_65 mixed Try.func129 (by kernel_rfl) (by kernel_rfl : Try.f129.body = some (codeOf Try.f129))
  rw [e_laws_szIntS] at h
  exact h
noncomputable def fns_129 : List (FuncId × Fn) := (129, F_laws_szIntS) :: fns_65
theorem g_129 : Good Try.prog ⟨tis, fns_129⟩ := g_65.cons m_laws_szIntS
noncomputable def laws_szVrowS (a0 : List Vrow) (left1 : Int) : Option Int :=
  let left1_1 := w64 (left1 - (a0.length : Int))
  cond (decide (left1_1 < 0)) (some (-1)) (some left1_1)
noncomputable def F_laws_szVrowS : Fn := ⟨[.val false (.one (.sl cVrow)) false, .val false (.one (.int .i64)) false], [.val false (.one (.int .i64)) true], fun a => laws_szVrowS a.1 a.2⟩
def a_laws_szVrowS : List (Nat × LoopAnn) := []
theorem e_laws_szVrowS : fnDen ⟨tis, fns_129⟩ a_laws_szVrowS Try.f138 (codeOf Try.f138) [.val false (.one (.sl cVrow)) false, .val false (.one (.int .i64)) false] [.val false (.one (.int .i64)) true] = fun a => laws_szVrowS a.1 a.2 := by kernel_rfl
theorem m_laws_szVrowS : Meets Try.prog 138 F_laws_szVrowS := by
  have h := meets_of (ann := a_laws_szVrowS) (ps := [.val false (.one (.sl cVrow)) false, .val false (.one (.int .i64)) false]) (rs := [.val false (.one (.int .i64)) true]) g_129 mixed Try.func138 (by kernel_rfl) (by kernel_rfl : Try.f138.body = some (codeOf Try.f138))
  rw [e_laws_szVrowS] at h
  exact h
noncomputable def fns_138 : List (FuncId × Fn) := (138, F_laws_szVrowS) :: fns_129
theorem g_138 : Good Try.prog ⟨tis, fns_138⟩ := g_129.cons m_laws_szVrowS
noncomputable def laws_szVtab (a0 : Vtab) (left1 : Int) : Option Int :=
  (laws_szVrowS a0.1 left1).bind fun t8 =>
  cond (decide (t8 < 0))
    (some (-1))
    ((laws_szIntS a0.2 t8).bind fun t14 =>
    cond (decide (t14 < 0)) (some (-1)) (some t14))
noncomputable def F_laws_szVtab : Fn := ⟨[.val true cVtab false, .val false (.one (.int .i64)) false], [.val false (.one (.int .i64)) true], fun a => laws_szVtab a.1 a.2⟩
def a_laws_szVtab : List (Nat × LoopAnn) := []
theorem e_laws_szVtab : fnDen ⟨tis, fns_138⟩ a_laws_szVtab Try.f66 (codeOf Try.f66) [.val true cVtab false, .val false (.one (.int .i64)) false] [.val false (.one (.int .i64)) true] = fun a => laws_szVtab a.1 a.2 := by kernel_rfl
theorem m_laws_szVtab : Meets Try.prog 66 F_laws_szVtab := by
  have h := meets_of (ann := a_laws_szVtab) (ps := [.val true cVtab false, .val false (.one (.int .i64)) false]) (rs := [.val false (.one (.int .i64)) true]) g_138 mixed Try.func66 (by kernel_rfl) (by kernel_rfl : Try.f66.body = some (codeOf Try.f66))
  rw [e_laws_szVtab] at h
  exact h
noncomputable def fns_66 : List (FuncId × Fn) := (66, F_laws_szVtab) :: fns_138
theorem g_66 : Good Try.prog ⟨tis, fns_66⟩ := g_138.cons m_laws_szVtab
noncomputable def laws_szBridge (a0 : Bridge) (left1 : Int) : Option Int :=
  let left1_1 := w64 (left1 - (a0.2.1.length : Int))
  cond (decide (left1_1 < 0))
    (some (-1))
    ((laws_szPtS a0.2.2.1 left1_1).bind fun t15 =>
    cond (decide (t15 < 0))
      (some (-1))
      ((laws_szFentS a0.2.2.2.1 t15).bind fun t21 =>
      cond (decide (t21 < 0))
        (some (-1))
        ((laws_szVtab (a0.2.2.2.2.1, a0.2.2.2.2.2.1) t21).bind fun t27 =>
        cond (decide (t27 < 0)) (some (-1)) (some t27))))
noncomputable def F_laws_szBridge : Fn := ⟨[.val true cBridge false, .val false (.one (.int .i64)) false], [.val false (.one (.int .i64)) true], fun a => laws_szBridge a.1 a.2⟩
def a_laws_szBridge : List (Nat × LoopAnn) := []
theorem e_laws_szBridge : fnDen ⟨tis, fns_66⟩ a_laws_szBridge Try.f12 (codeOf Try.f12) [.val true cBridge false, .val false (.one (.int .i64)) false] [.val false (.one (.int .i64)) true] = fun a => laws_szBridge a.1 a.2 := by kernel_rfl
theorem m_laws_szBridge : Meets Try.prog 12 F_laws_szBridge := by
  have h := meets_of (ann := a_laws_szBridge) (ps := [.val true cBridge false, .val false (.one (.int .i64)) false]) (rs := [.val false (.one (.int .i64)) true]) g_66 mixed Try.func12 (by kernel_rfl) (by kernel_rfl : Try.f12.body = some (codeOf Try.f12))
  rw [e_laws_szBridge] at h
  exact h
noncomputable def fns_12 : List (FuncId × Fn) := (12, F_laws_szBridge) :: fns_66
theorem g_12 : Good Try.prog ⟨tis, fns_12⟩ := g_66.cons m_laws_szBridge
noncomputable def laws_szByteS (a0 : List Int) (left1 : Int) : Option Int :=
  let left1_1 := w64 (left1 - (a0.length : Int))
  cond (decide (left1_1 < 0)) (some (-1)) (some left1_1)
noncomputable def F_laws_szByteS : Fn := ⟨[.val false (.one (.sl (.one (.int .u8)))) false, .val false (.one (.int .i64)) false], [.val false (.one (.int .i64)) true], fun a => laws_szByteS a.1 a.2⟩
def a_laws_szByteS : List (Nat × LoopAnn) := []
theorem e_laws_szByteS : fnDen ⟨tis, fns_12⟩ a_laws_szByteS Try.f248 (codeOf Try.f248) [.val false (.one (.sl (.one (.int .u8)))) false, .val false (.one (.int .i64)) false] [.val false (.one (.int .i64)) true] = fun a => laws_szByteS a.1 a.2 := by kernel_rfl
theorem m_laws_szByteS : Meets Try.prog 248 F_laws_szByteS := by
  have h := meets_of (ann := a_laws_szByteS) (ps := [.val false (.one (.sl (.one (.int .u8)))) false, .val false (.one (.int .i64)) false]) (rs := [.val false (.one (.int .i64)) true]) g_12 mixed Try.func248 (by kernel_rfl) (by kernel_rfl : Try.f248.body = some (codeOf Try.f248))
  rw [e_laws_szByteS] at h
  exact h
noncomputable def fns_248 : List (FuncId × Fn) := (248, F_laws_szByteS) :: fns_12
theorem g_248 : Good Try.prog ⟨tis, fns_248⟩ := g_12.cons m_laws_szByteS
noncomputable def laws_szVal (a0 : Val) (left1 : Int) : Option Int :=
  let left1_1 := w64 (left1 - (a0.2.2.1.length : Int))
  cond (decide (left1_1 < 0))
    (some (-1))
    ((laws_szIntS a0.2.2.2 left1_1).bind fun t15 =>
    cond (decide (t15 < 0)) (some (-1)) (some t15))
noncomputable def F_laws_szVal : Fn := ⟨[.val true cVal false, .val false (.one (.int .i64)) false], [.val false (.one (.int .i64)) true], fun a => laws_szVal a.1 a.2⟩
def a_laws_szVal : List (Nat × LoopAnn) := []
theorem e_laws_szVal : fnDen ⟨tis, fns_248⟩ a_laws_szVal Try.f130 (codeOf Try.f130) [.val true cVal false, .val false (.one (.int .i64)) false] [.val false (.one (.int .i64)) true] = fun a => laws_szVal a.1 a.2 := by kernel_rfl
theorem m_laws_szVal : Meets Try.prog 130 F_laws_szVal := by
  have h := meets_of (ann := a_laws_szVal) (ps := [.val true cVal false, .val false (.one (.int .i64)) false]) (rs := [.val false (.one (.int .i64)) true]) g_248 mixed Try.func130 (by kernel_rfl) (by kernel_rfl : Try.f130.body = some (codeOf Try.f130))
  rw [e_laws_szVal] at h
  exact h
noncomputable def fns_130 : List (FuncId × Fn) := (130, F_laws_szVal) :: fns_248
theorem g_130 : Good Try.prog ⟨tis, fns_130⟩ := g_248.cons m_laws_szVal
noncomputable def laws_szBind (a0 : Bind) (left1 : Int) : Option Int :=
  (laws_szIntS a0.1 left1).bind fun t8 =>
  cond (decide (t8 < 0))
    (some (-1))
    ((laws_szVal a0.2 t8).bind fun t14 =>
    cond (decide (t14 < 0)) (some (-1)) (some t14))
noncomputable def F_laws_szBind : Fn := ⟨[.val true cBind false, .val false (.one (.int .i64)) false], [.val false (.one (.int .i64)) true], fun a => laws_szBind a.1 a.2⟩
def a_laws_szBind : List (Nat × LoopAnn) := []
theorem e_laws_szBind : fnDen ⟨tis, fns_130⟩ a_laws_szBind Try.f58 (codeOf Try.f58) [.val true cBind false, .val false (.one (.int .i64)) false] [.val false (.one (.int .i64)) true] = fun a => laws_szBind a.1 a.2 := by kernel_rfl
theorem m_laws_szBind : Meets Try.prog 58 F_laws_szBind := by
  have h := meets_of (ann := a_laws_szBind) (ps := [.val true cBind false, .val false (.one (.int .i64)) false]) (rs := [.val false (.one (.int .i64)) true]) g_130 mixed Try.func58 (by kernel_rfl) (by kernel_rfl : Try.f58.body = some (codeOf Try.f58))
  rw [e_laws_szBind] at h
  exact h
noncomputable def fns_58 : List (FuncId × Fn) := (58, F_laws_szBind) :: fns_130
theorem g_58 : Good Try.prog ⟨tis, fns_58⟩ := g_130.cons m_laws_szBind
noncomputable def laws_szBindS_l0 (a0 : List Bind) (left1_2 : Int) (i5 : Int) : Option ((Int × Int) ⊕ (Int ⊕ Int)) :=
  cond (decide (i5 < (a0.length : Int)))
    ((at? a0 i5).bind fun x20 =>
    (laws_szBind x20 left1_2).bind fun t23 =>
    cond (decide (t23 < 0)) (some (.inr (.inr (-1)))) (some (.inl (t23, w64 (i5 + 1)))))
    (some (.inr (.inl left1_2)))
noncomputable def laws_szBindS (a0 : List Bind) (left1 : Int) : Option Int :=
  let left1_1 := w64 (left1 - (a0.length : Int))
  cond (decide (left1_1 < 0))
    (some (-1))
    ((loop (fun z => laws_szBindS_l0 a0 z.1 z.2) (left1_1, 0)).bind (Sum.elim (fun d =>
      some d) (fun r => some r)))
noncomputable def F_laws_szBindS : Fn := ⟨[.val false (.one (.sl cBind)) false, .val false (.one (.int .i64)) false], [.val false (.one (.int .i64)) true], fun a => laws_szBindS a.1 a.2⟩
def a_laws_szBindS : List (Nat × LoopAnn) := [(0, ⟨⟨[(1, false, [.dat (.int .i64)]), (5, false, [.dat (.int .i64)])], []⟩,
    ⟨[(1, false, [.dat (.int .i64)])], []⟩, some ⟨[(4, false, [.dat (.int .i64)])], []⟩⟩)]
theorem e_laws_szBindS : fnDen ⟨tis, fns_58⟩ a_laws_szBindS Try.f269 (codeOf Try.f269) [.val false (.one (.sl cBind)) false, .val false (.one (.int .i64)) false] [.val false (.one (.int .i64)) true] = fun a => laws_szBindS a.1 a.2 := by kernel_rfl
theorem m_laws_szBindS : Meets Try.prog 269 F_laws_szBindS := by
  have h := meets_of (ann := a_laws_szBindS) (ps := [.val false (.one (.sl cBind)) false, .val false (.one (.int .i64)) false]) (rs := [.val false (.one (.int .i64)) true]) g_58 mixed Try.func269 (by kernel_rfl) (by kernel_rfl : Try.f269.body = some (codeOf Try.f269))
  rw [e_laws_szBindS] at h
  exact h
noncomputable def fns_269 : List (FuncId × Fn) := (269, F_laws_szBindS) :: fns_58
theorem g_269 : Good Try.prog ⟨tis, fns_269⟩ := g_58.cons m_laws_szBindS
noncomputable def laws_szPdu (a0 : Pdu) (left1 : Int) : Option Int :=
  (laws_szBindS a0.2.2.2.2 left1).bind fun t8 =>
  cond (decide (t8 < 0)) (some (-1)) (some t8)
noncomputable def F_laws_szPdu : Fn := ⟨[.val true cPdu false, .val false (.one (.int .i64)) false], [.val false (.one (.int .i64)) true], fun a => laws_szPdu a.1 a.2⟩
def a_laws_szPdu : List (Nat × LoopAnn) := []
theorem e_laws_szPdu : fnDen ⟨tis, fns_269⟩ a_laws_szPdu Try.f249 (codeOf Try.f249) [.val true cPdu false, .val false (.one (.int .i64)) false] [.val false (.one (.int .i64)) true] = fun a => laws_szPdu a.1 a.2 := by kernel_rfl
theorem m_laws_szPdu : Meets Try.prog 249 F_laws_szPdu := by
  have h := meets_of (ann := a_laws_szPdu) (ps := [.val true cPdu false, .val false (.one (.int .i64)) false]) (rs := [.val false (.one (.int .i64)) true]) g_269 mixed Try.func249 (by kernel_rfl) (by kernel_rfl : Try.f249.body = some (codeOf Try.f249))
  rw [e_laws_szPdu] at h
  exact h
noncomputable def fns_249 : List (FuncId × Fn) := (249, F_laws_szPdu) :: fns_269
theorem g_249 : Good Try.prog ⟨tis, fns_249⟩ := g_269.cons m_laws_szPdu
noncomputable def laws_szJob (a0 : Job) (left1 : Int) : Option Int :=
  (laws_szByteS a0.2.1 left1).bind fun t8 =>
  cond (decide (t8 < 0))
    (some (-1))
    ((laws_szPdu (a0.2.2.2.1, a0.2.2.2.2.1, a0.2.2.2.2.2.1, a0.2.2.2.2.2.2.1, a0.2.2.2.2.2.2.2.1) t8).bind fun t14 =>
    cond (decide (t14 < 0))
      (some (-1))
      ((laws_szBridge (a0.2.2.2.2.2.2.2.2.1, a0.2.2.2.2.2.2.2.2.2.1, a0.2.2.2.2.2.2.2.2.2.2.1, a0.2.2.2.2.2.2.2.2.2.2.2.1, a0.2.2.2.2.2.2.2.2.2.2.2.2.1, a0.2.2.2.2.2.2.2.2.2.2.2.2.2.1, a0.2.2.2.2.2.2.2.2.2.2.2.2.2.2.1, a0.2.2.2.2.2.2.2.2.2.2.2.2.2.2.2.1, a0.2.2.2.2.2.2.2.2.2.2.2.2.2.2.2.2.1, a0.2.2.2.2.2.2.2.2.2.2.2.2.2.2.2.2.2.1, a0.2.2.2.2.2.2.2.2.2.2.2.2.2.2.2.2.2.2.1) t14).bind fun t20 =>
      cond (decide (t20 < 0)) (some (-1)) (some t20)))
noncomputable def F_laws_szJob : Fn := ⟨[.val true cJob false, .val false (.one (.int .i64)) false], [.val false (.one (.int .i64)) true], fun a => laws_szJob a.1 a.2⟩
def a_laws_szJob : List (Nat × LoopAnn) := []
theorem e_laws_szJob : fnDen ⟨tis, fns_249⟩ a_laws_szJob Try.f188 (codeOf Try.f188) [.val true cJob false, .val false (.one (.int .i64)) false] [.val false (.one (.int .i64)) true] = fun a => laws_szJob a.1 a.2 := by kernel_rfl
theorem m_laws_szJob : Meets Try.prog 188 F_laws_szJob := by
  have h := meets_of (ann := a_laws_szJob) (ps := [.val true cJob false, .val false (.one (.int .i64)) false]) (rs := [.val false (.one (.int .i64)) true]) g_249 mixed Try.func188 (by kernel_rfl) (by kernel_rfl : Try.f188.body = some (codeOf Try.f188))
  rw [e_laws_szJob] at h
  exact h
noncomputable def fns_188 : List (FuncId × Fn) := (188, F_laws_szJob) :: fns_249
theorem g_188 : Good Try.prog ⟨tis, fns_188⟩ := g_249.cons m_laws_szJob
noncomputable def laws_szJobS_l0 (a0 : List Job) (left1_2 : Int) (i5 : Int) : Option ((Int × Int) ⊕ (Int ⊕ Int)) :=
  cond (decide (i5 < (a0.length : Int)))
    ((at? a0 i5).bind fun x20 =>
    (laws_szJob x20 left1_2).bind fun t23 =>
    cond (decide (t23 < 0)) (some (.inr (.inr (-1)))) (some (.inl (t23, w64 (i5 + 1)))))
    (some (.inr (.inl left1_2)))
noncomputable def laws_szJobS (a0 : List Job) (left1 : Int) : Option Int :=
  let left1_1 := w64 (left1 - (a0.length : Int))
  cond (decide (left1_1 < 0))
    (some (-1))
    ((loop (fun z => laws_szJobS_l0 a0 z.1 z.2) (left1_1, 0)).bind (Sum.elim (fun d =>
      some d) (fun r => some r)))
noncomputable def F_laws_szJobS : Fn := ⟨[.val false (.one (.sl cJob)) false, .val false (.one (.int .i64)) false], [.val false (.one (.int .i64)) true], fun a => laws_szJobS a.1 a.2⟩
def a_laws_szJobS : List (Nat × LoopAnn) := [(0, ⟨⟨[(1, false, [.dat (.int .i64)]), (5, false, [.dat (.int .i64)])], []⟩,
    ⟨[(1, false, [.dat (.int .i64)])], []⟩, some ⟨[(4, false, [.dat (.int .i64)])], []⟩⟩)]
theorem e_laws_szJobS : fnDen ⟨tis, fns_188⟩ a_laws_szJobS Try.f114 (codeOf Try.f114) [.val false (.one (.sl cJob)) false, .val false (.one (.int .i64)) false] [.val false (.one (.int .i64)) true] = fun a => laws_szJobS a.1 a.2 := by kernel_rfl
theorem m_laws_szJobS : Meets Try.prog 114 F_laws_szJobS := by
  have h := meets_of (ann := a_laws_szJobS) (ps := [.val false (.one (.sl cJob)) false, .val false (.one (.int .i64)) false]) (rs := [.val false (.one (.int .i64)) true]) g_188 mixed Try.func114 (by kernel_rfl) (by kernel_rfl : Try.f114.body = some (codeOf Try.f114))
  rw [e_laws_szJobS] at h
  exact h
noncomputable def fns_114 : List (FuncId × Fn) := (114, F_laws_szJobS) :: fns_188
theorem g_114 : Good Try.prog ⟨tis, fns_114⟩ := g_188.cons m_laws_szJobS
noncomputable def laws_szAgent (a0 : Agent) (left1 : Int) : Option Int :=
  (laws_szBridge (a0.1, a0.2.1, a0.2.2.1, a0.2.2.2.1, a0.2.2.2.2.1, a0.2.2.2.2.2.1, a0.2.2.2.2.2.2.1, a0.2.2.2.2.2.2.2.1, a0.2.2.2.2.2.2.2.2.1, a0.2.2.2.2.2.2.2.2.2.1, a0.2.2.2.2.2.2.2.2.2.2.1) left1).bind fun t8 =>
  cond (decide (t8 < 0))
    (some (-1))
    (let left1_1 := w64 (t8 - (a0.2.2.2.2.2.2.2.2.2.2.2.1.length : Int))
    cond (decide (left1_1 < 0))
      (some (-1))
      ((laws_szJobS a0.2.2.2.2.2.2.2.2.2.2.2.2.1 left1_1).bind fun t21 =>
      cond (decide (t21 < 0)) (some (-1)) (some t21)))
noncomputable def F_laws_szAgent : Fn := ⟨[.val true cAgent false, .val false (.one (.int .i64)) false], [.val false (.one (.int .i64)) true], fun a => laws_szAgent a.1 a.2⟩
def a_laws_szAgent : List (Nat × LoopAnn) := []
theorem e_laws_szAgent : fnDen ⟨tis, fns_114⟩ a_laws_szAgent Try.f44 (codeOf Try.f44) [.val true cAgent false, .val false (.one (.int .i64)) false] [.val false (.one (.int .i64)) true] = fun a => laws_szAgent a.1 a.2 := by kernel_rfl
theorem m_laws_szAgent : Meets Try.prog 44 F_laws_szAgent := by
  have h := meets_of (ann := a_laws_szAgent) (ps := [.val true cAgent false, .val false (.one (.int .i64)) false]) (rs := [.val false (.one (.int .i64)) true]) g_114 mixed Try.func44 (by kernel_rfl) (by kernel_rfl : Try.f44.body = some (codeOf Try.f44))
  rw [e_laws_szAgent] at h
  exact h
noncomputable def fns_44 : List (FuncId × Fn) := (44, F_laws_szAgent) :: fns_114
theorem g_44 : Good Try.prog ⟨tis, fns_44⟩ := g_114.cons m_laws_szAgent
noncomputable def spec_l1In (x0 : Int) (least1 : Int) (most2 : Int) : Option Bool :=
  (cond (decide (x0 ≥ least1)) (some (decide (x0 ≤ most2))) (some false)).bind fun t14 =>
  some t14
noncomputable def F_spec_l1In : Fn := ⟨[.val false (.one (.int .i64)) false, .val false (.one (.int .i64)) false, .val false (.one (.int .i64)) false], [.val false (.one .bool) true], fun a => spec_l1In a.1 a.2.1 a.2.2⟩
def a_spec_l1In : List (Nat × LoopAnn) := []
theorem e_spec_l1In : fnDen ⟨tis, fns_44⟩ a_spec_l1In Try.f113 (codeOf Try.f113) [.val false (.one (.int .i64)) false, .val false (.one (.int .i64)) false, .val false (.one (.int .i64)) false] [.val false (.one .bool) true] = fun a => spec_l1In a.1 a.2.1 a.2.2 := by kernel_rfl
theorem m_spec_l1In : Meets Try.prog 113 F_spec_l1In := by
  have h := meets_of (ann := a_spec_l1In) (ps := [.val false (.one (.int .i64)) false, .val false (.one (.int .i64)) false, .val false (.one (.int .i64)) false]) (rs := [.val false (.one .bool) true]) g_44 mixed Try.func113 (by kernel_rfl) (by kernel_rfl : Try.f113.body = some (codeOf Try.f113))
  rw [e_spec_l1In] at h
  exact h
noncomputable def fns_113 : List (FuncId × Fn) := (113, F_spec_l1In) :: fns_44
theorem g_113 : Good Try.prog ⟨tis, fns_113⟩ := g_44.cons m_spec_l1In
noncomputable def spec_VecOk (v0 : Vec) : Option Bool :=
  (spec_l1In v0.1 1 99).bind fun t5 =>
  (cond t5
    ((spec_l1In v0.2.1 0 100000).bind fun t9 =>
    some t9)
    (some false)).bind fun t10 =>
  (cond t10
    ((spec_l1In v0.2.2.1 0 10).bind fun t14 =>
    some t14)
    (some false)).bind fun t15 =>
  (cond t15
    ((spec_l1In v0.2.2.2.1 1 99).bind fun t19 =>
    some t19)
    (some false)).bind fun t20 =>
  (cond t20
    ((spec_l1In v0.2.2.2.2 0 7).bind fun t24 =>
    some t24)
    (some false)).bind fun t25 =>
  some t25
noncomputable def F_spec_VecOk : Fn := ⟨[.val true cVec false], [.val false (.one .bool) true], fun a => spec_VecOk a⟩
def a_spec_VecOk : List (Nat × LoopAnn) := []
theorem e_spec_VecOk : fnDen ⟨tis, fns_113⟩ a_spec_VecOk Try.f251 (codeOf Try.f251) [.val true cVec false] [.val false (.one .bool) true] = fun a => spec_VecOk a := by kernel_rfl
theorem m_spec_VecOk : Meets Try.prog 251 F_spec_VecOk := by
  have h := meets_of (ann := a_spec_VecOk) (ps := [.val true cVec false]) (rs := [.val false (.one .bool) true]) g_113 mixed Try.func251 (by kernel_rfl) (by kernel_rfl : Try.f251.body = some (codeOf Try.f251))
  rw [e_spec_VecOk] at h
  exact h
noncomputable def fns_251 : List (FuncId × Fn) := (251, F_spec_VecOk) :: fns_113
theorem g_251 : Good Try.prog ⟨tis, fns_251⟩ := g_113.cons m_spec_VecOk
noncomputable def spec_PtOk (p0 : Pt) : Option Bool :=
  (spec_l1In p0.2.1 1 1000).bind fun t5 =>
  (cond (!t5)
    (some true)
    ((cond (!p0.1) (some p0.2.2.1) (some false)).bind fun t14 =>
    some t14)).bind fun t15 =>
  cond t15
    (some false)
    (cond (!p0.2.2.1)
      (let t2 := p0.2.2.2.1 == 0 && (p0.2.2.2.2.1 == 0 && (p0.2.2.2.2.2.1 == 0 && (p0.2.2.2.2.2.2.1 == 0 && (p0.2.2.2.2.2.2.2 == 0))))
      some t2)
      ((spec_VecOk p0.2.2.2).bind fun t25 =>
      some t25))
noncomputable def F_spec_PtOk : Fn := ⟨[.val true cPt false], [.val false (.one .bool) true], fun a => spec_PtOk a⟩
def a_spec_PtOk : List (Nat × LoopAnn) := []
theorem e_spec_PtOk : fnDen ⟨tis, fns_251⟩ a_spec_PtOk Try.f190 (codeOf Try.f190) [.val true cPt false] [.val false (.one .bool) true] = fun a => spec_PtOk a := by kernel_rfl
theorem m_spec_PtOk : Meets Try.prog 190 F_spec_PtOk := by
  have h := meets_of (ann := a_spec_PtOk) (ps := [.val true cPt false]) (rs := [.val false (.one .bool) true]) g_251 mixed Try.func190 (by kernel_rfl) (by kernel_rfl : Try.f190.body = some (codeOf Try.f190))
  rw [e_spec_PtOk] at h
  exact h
noncomputable def fns_190 : List (FuncId × Fn) := (190, F_spec_PtOk) :: fns_251
theorem g_190 : Good Try.prog ⟨tis, fns_190⟩ := g_251.cons m_spec_PtOk
noncomputable def spec_l8Ent (e0 : Fent) : Option Bool :=
  (spec_l1In e0.1 1 99).bind fun t5 =>
  (cond t5
    ((spec_l1In e0.2.1 1 9999).bind fun t9 =>
    some t9)
    (some false)).bind fun t10 =>
  (cond t10
    ((spec_l1In e0.2.2.1 0 7).bind fun t14 =>
    some t14)
    (some false)).bind fun t15 =>
  (cond t15
    ((spec_l1In e0.2.2.2.1 0 4).bind fun t19 =>
    some t19)
    (some false)).bind fun t20 =>
  (cond t20
    ((cond (!e0.2.2.2.2) (some true) (some (e0.2.2.2.1 == 0))).bind fun t29 =>
    some t29)
    (some false)).bind fun t30 =>
  some t30
noncomputable def F_spec_l8Ent : Fn := ⟨[.val true cFent false], [.val false (.one .bool) true], fun a => spec_l8Ent a⟩
def a_spec_l8Ent : List (Nat × LoopAnn) := []
theorem e_spec_l8Ent : fnDen ⟨tis, fns_190⟩ a_spec_l8Ent Try.f222 (codeOf Try.f222) [.val true cFent false] [.val false (.one .bool) true] = fun a => spec_l8Ent a := by kernel_rfl
theorem m_spec_l8Ent : Meets Try.prog 222 F_spec_l8Ent := by
  have h := meets_of (ann := a_spec_l8Ent) (ps := [.val true cFent false]) (rs := [.val false (.one .bool) true]) g_190 mixed Try.func222 (by kernel_rfl) (by kernel_rfl : Try.f222.body = some (codeOf Try.f222))
  rw [e_spec_l8Ent] at h
  exact h
noncomputable def fns_222 : List (FuncId × Fn) := (222, F_spec_l8Ent) :: fns_190
theorem g_222 : Good Try.prog ⟨tis, fns_222⟩ := g_190.cons m_spec_l8Ent
noncomputable def spec_l8Ahead (e0 : Fent) (tag1 : Int) (mac2 : Int) : Option Bool :=
  cond (e0.1 != tag1) (some (decide (e0.1 < tag1))) (some (decide (e0.2.1 < mac2)))
noncomputable def F_spec_l8Ahead : Fn := ⟨[.val true cFent false, .val false (.one (.int .i64)) false, .val false (.one (.int .i64)) false], [.val false (.one .bool) true], fun a => spec_l8Ahead a.1 a.2.1 a.2.2⟩
def a_spec_l8Ahead : List (Nat × LoopAnn) := []
theorem e_spec_l8Ahead : fnDen ⟨tis, fns_222⟩ a_spec_l8Ahead Try.f252 (codeOf Try.f252) [.val true cFent false, .val false (.one (.int .i64)) false, .val false (.one (.int .i64)) false] [.val false (.one .bool) true] = fun a => spec_l8Ahead a.1 a.2.1 a.2.2 := by kernel_rfl
theorem m_spec_l8Ahead : Meets Try.prog 252 F_spec_l8Ahead := by
  have h := meets_of (ann := a_spec_l8Ahead) (ps := [.val true cFent false, .val false (.one (.int .i64)) false, .val false (.one (.int .i64)) false]) (rs := [.val false (.one .bool) true]) g_222 mixed Try.func252 (by kernel_rfl) (by kernel_rfl : Try.f252.body = some (codeOf Try.f252))
  rw [e_spec_l8Ahead] at h
  exact h
noncomputable def fns_252 : List (FuncId × Fn) := (252, F_spec_l8Ahead) :: fns_222
theorem g_252 : Good Try.prog ⟨tis, fns_252⟩ := g_222.cons m_spec_l8Ahead
noncomputable def spec_FdbOk_l0 (l0 : List Fent) (i3 : Int) : Option (Int ⊕ (Unit ⊕ Bool)) :=
  cond (decide (i3 < (l0.length : Int)))
    ((at? l0 i3).bind fun x12 =>
    (spec_l8Ent x12).bind fun t14 =>
    (cond (!t14)
      (some true)
      ((cond (decide (i3 > 0))
        ((at? l0 (w64 (i3 - 1))).bind fun x23 =>
        (at? l0 i3).bind fun x27 =>
        (at? l0 i3).bind fun x32 =>
        (spec_l8Ahead x23 x27.1 x32.2.1).bind fun t35 =>
        some (!t35))
        (some false)).bind fun t37 =>
      some t37)).bind fun t38 =>
    cond t38 (some (.inr (.inr false))) (some (.inl (w64 (i3 + 1)))))
    (some (.inr (.inl ())))
noncomputable def spec_FdbOk (l0 : List Fent) : Option Bool :=
  (loop (fun z => spec_FdbOk_l0 l0 z) 0).bind (Sum.elim (fun d =>
    let t2 := decide ((l0.length : Int) ≤ 12)
    some t2) (fun r => some r))
noncomputable def F_spec_FdbOk : Fn := ⟨[.val false (.one (.sl cFent)) false], [.val false (.one .bool) true], fun a => spec_FdbOk a⟩
def a_spec_FdbOk : List (Nat × LoopAnn) := [(0, ⟨⟨[(3, false, [.dat (.int .i64)]), (17, false, [.undef]), (18, false, [.undef]), (19, false, [.undef]), (20, false, [.undef]), (21, false, [.undef]), (22, false, [.undef]), (23, false, [.undef]), (24, false, [.undef]), (25, false, [.undef]), (26, false, [.undef]), (27, false, [.undef]), (28, false, [.undef]), (29, false, [.undef]), (30, false, [.undef]), (31, false, [.undef]), (32, false, [.undef]), (33, false, [.undef]), (34, false, [.undef]), (35, false, [.undef]), (36, false, [.undef]), (37, false, [.undef])], []⟩,
    ⟨[], []⟩, some ⟨[(2, false, [.dat .bool])], []⟩⟩)]
theorem e_spec_FdbOk : fnDen ⟨tis, fns_252⟩ a_spec_FdbOk Try.f191 (codeOf Try.f191) [.val false (.one (.sl cFent)) false] [.val false (.one .bool) true] = fun a => spec_FdbOk a := by kernel_rfl
theorem m_spec_FdbOk : Meets Try.prog 191 F_spec_FdbOk := by
  have h := meets_of (ann := a_spec_FdbOk) (ps := [.val false (.one (.sl cFent)) false]) (rs := [.val false (.one .bool) true]) g_252 mixed Try.func191 (by kernel_rfl) (by kernel_rfl : Try.f191.body = some (codeOf Try.f191))
  rw [e_spec_FdbOk] at h
  exact h
noncomputable def fns_191 : List (FuncId × Fn) := (191, F_spec_FdbOk) :: fns_252
theorem g_191 : Good Try.prog ⟨tis, fns_191⟩ := g_252.cons m_spec_FdbOk
noncomputable def spec_RowAt_l0 (v0 : Vtab) (id1 : Int) (i5 : Int) : Option (Int ⊕ (Unit ⊕ Int)) :=
  cond (decide (i5 < (v0.1.length : Int)))
    ((at? v0.1 i5).bind fun x16 =>
    cond (x16.1 == id1) (some (.inr (.inr i5))) (some (.inl (w64 (i5 + 1)))))
    (some (.inr (.inl ())))
noncomputable def spec_RowAt (v0 : Vtab) (id1 : Int) : Option Int :=
  (loop (fun z => spec_RowAt_l0 v0 id1 z) 0).bind (Sum.elim (fun d =>
    some (-1)) (fun r => some r))
noncomputable def F_spec_RowAt : Fn := ⟨[.val true cVtab false, .val false (.one (.int .i64)) false], [.val false (.one (.int .i64)) true], fun a => spec_RowAt a.1 a.2⟩
def a_spec_RowAt : List (Nat × LoopAnn) := [(0, ⟨⟨[(5, false, [.dat (.int .i64)])], []⟩,
    ⟨[], []⟩, some ⟨[(4, false, [.dat (.int .i64)])], []⟩⟩)]
theorem e_spec_RowAt : fnDen ⟨tis, fns_191⟩ a_spec_RowAt Try.f253 (codeOf Try.f253) [.val true cVtab false, .val false (.one (.int .i64)) false] [.val false (.one (.int .i64)) true] = fun a => spec_RowAt a.1 a.2 := by kernel_rfl
theorem m_spec_RowAt : Meets Try.prog 253 F_spec_RowAt := by
  have h := meets_of (ann := a_spec_RowAt) (ps := [.val true cVtab false, .val false (.one (.int .i64)) false]) (rs := [.val false (.one (.int .i64)) true]) g_191 mixed Try.func253 (by kernel_rfl) (by kernel_rfl : Try.f253.body = some (codeOf Try.f253))
  rw [e_spec_RowAt] at h
  exact h
noncomputable def fns_253 : List (FuncId × Fn) := (253, F_spec_RowAt) :: fns_191
theorem g_253 : Good Try.prog ⟨tis, fns_253⟩ := g_191.cons m_spec_RowAt
noncomputable def spec_VtabOk_l0 (p0 : Vtab) (t27 : Int) (t6 : Int) : Option (Int ⊕ (Unit ⊕ Bool)) :=
  cond (decide (t6 < (p0.1.length : Int)))
    ((at? p0.1 t6).bind fun x39 =>
    (spec_l1In x39.1 1 99).bind fun t43 =>
    (cond (!t43)
      (some true)
      ((spec_l1In x39.2.1 0 (w64 (t27 - 1))).bind fun t49 =>
      some (!t49))).bind fun t51 =>
    (cond t51
      (some true)
      ((spec_l1In x39.2.2 0 (w64 (t27 - 1))).bind fun t56 =>
      some (!t56))).bind fun t58 =>
    (cond t58 (some true) (some ((band .i64 x39.2.2 x39.2.1) != x39.2.2))).bind fun t68 =>
    (cond t68
      (some true)
      ((cond (decide (t6 > 0))
        ((at? p0.1 (w64 (t6 - 1))).bind fun x77 =>
        some (decide (x77.1 ≥ x39.1)))
        (some false)).bind fun t83 =>
      some t83)).bind fun t84 =>
    cond t84 (some (.inr (.inr false))) (some (.inl (w64 (t6 + 1)))))
    (some (.inr (.inl ())))
noncomputable def spec_VtabOk_l2 (p0 : Vtab) (t8 : Int) : Option (Int ⊕ (Unit ⊕ Bool)) :=
  cond (decide (t8 < (p0.2.length : Int)))
    ((at? p0.2 t8).bind fun x96 =>
    (spec_RowAt p0 x96).bind fun t98 =>
    cond (decide (t98 < 0)) (some (.inr (.inr false))) (some (.inl (w64 (t8 + 1)))))
    (some (.inr (.inl ())))
noncomputable def spec_VtabOk (p0 : Vtab) (i1 : Int) : Option Bool :=
  (spec_l1In i1 1 6).bind fun t10 =>
  (cond (!t10) (some true) (some ((p0.2.length : Int) != i1))).bind fun t18 =>
  (cond t18 (some true) (some (decide ((p0.1.length : Int) > 6)))).bind fun t24 =>
  cond t24
    (some false)
    ((shl .i64 1 (IntKind.u64.wrap (i1))).bind fun t27 =>
    (loop (fun z => spec_VtabOk_l0 p0 t27 z) 0).bind (Sum.elim (fun d =>
      (loop (fun z => spec_VtabOk_l2 p0 z) 0).bind (Sum.elim (fun d_1 =>
        some true) (fun r => some r))) (fun r_1 => some r_1)))
noncomputable def F_spec_VtabOk : Fn := ⟨[.val true cVtab false, .val false (.one (.int .i64)) false], [.val false (.one .bool) true], fun a => spec_VtabOk a.1 a.2⟩
def a_spec_VtabOk : List (Nat × LoopAnn) := [(0, ⟨⟨[(6, false, [.dat (.int .i64)]), (46, false, [.undef]), (47, false, [.undef]), (48, false, [.undef]), (49, false, [.undef]), (50, false, [.undef]), (53, false, [.undef]), (54, false, [.undef]), (55, false, [.undef]), (56, false, [.undef]), (57, false, [.undef]), (60, false, [.undef]), (61, false, [.undef]), (62, false, [.undef]), (63, false, [.undef]), (64, false, [.undef]), (65, false, [.undef]), (66, false, [.undef]), (67, false, [.undef]), (70, false, [.undef]), (71, false, [.undef]), (72, false, [.undef]), (73, false, [.undef]), (74, false, [.undef]), (75, false, [.undef]), (76, false, [.undef]), (77, false, [.undef]), (78, false, [.undef]), (79, false, [.undef]), (80, false, [.undef]), (81, false, [.undef]), (82, false, [.undef]), (83, false, [.undef])], []⟩,
    ⟨[], []⟩, some ⟨[(4, false, [.dat .bool])], []⟩⟩),
  (2, ⟨⟨[(8, false, [.dat (.int .i64)])], []⟩,
    ⟨[], []⟩, some ⟨[(4, false, [.dat .bool])], []⟩⟩)]
theorem e_spec_VtabOk : fnDen ⟨tis, fns_253⟩ a_spec_VtabOk Try.f192 (codeOf Try.f192) [.val true cVtab false, .val false (.one (.int .i64)) false] [.val false (.one .bool) true] = fun a => spec_VtabOk a.1 a.2 := by kernel_rfl
theorem m_spec_VtabOk : Meets Try.prog 192 F_spec_VtabOk := by
  have h := meets_of (ann := a_spec_VtabOk) (ps := [.val true cVtab false, .val false (.one (.int .i64)) false]) (rs := [.val false (.one .bool) true]) g_253 mixed Try.func192 (by kernel_rfl) (by kernel_rfl : Try.f192.body = some (codeOf Try.f192))
  rw [e_spec_VtabOk] at h
  exact h
noncomputable def fns_192 : List (FuncId × Fn) := (192, F_spec_VtabOk) :: fns_253
theorem g_192 : Good Try.prog ⟨tis, fns_192⟩ := g_253.cons m_spec_VtabOk
noncomputable def spec_l11Counts (b0 : Bridge) : Option Bool :=
  (spec_l1In b0.2.2.2.2.2.2.1 0 1000000).bind fun t5 =>
  (cond t5
    ((spec_l1In b0.2.2.2.2.2.2.2.1 0 1000000).bind fun t9 =>
    some t9)
    (some false)).bind fun t10 =>
  (cond t10
    ((spec_l1In b0.2.2.2.2.2.2.2.2.1 0 1000000).bind fun t14 =>
    some t14)
    (some false)).bind fun t15 =>
  (cond t15
    ((spec_l1In b0.2.2.2.2.2.2.2.2.2.1 0 1000000).bind fun t19 =>
    some t19)
    (some false)).bind fun t20 =>
  (cond t20
    ((spec_l1In b0.2.2.2.2.2.2.2.2.2.2 0 1000000).bind fun t24 =>
    some t24)
    (some false)).bind fun t25 =>
  some t25
noncomputable def F_spec_l11Counts : Fn := ⟨[.val true cBridge false], [.val false (.one .bool) true], fun a => spec_l11Counts a⟩
def a_spec_l11Counts : List (Nat × LoopAnn) := []
theorem e_spec_l11Counts : fnDen ⟨tis, fns_192⟩ a_spec_l11Counts Try.f193 (codeOf Try.f193) [.val true cBridge false] [.val false (.one .bool) true] = fun a => spec_l11Counts a := by kernel_rfl
theorem m_spec_l11Counts : Meets Try.prog 193 F_spec_l11Counts := by
  have h := meets_of (ann := a_spec_l11Counts) (ps := [.val true cBridge false]) (rs := [.val false (.one .bool) true]) g_192 mixed Try.func193 (by kernel_rfl) (by kernel_rfl : Try.f193.body = some (codeOf Try.f193))
  rw [e_spec_l11Counts] at h
  exact h
noncomputable def fns_193 : List (FuncId × Fn) := (193, F_spec_l11Counts) :: fns_192
theorem g_193 : Good Try.prog ⟨tis, fns_193⟩ := g_192.cons m_spec_l11Counts
noncomputable def spec_BridgeOk_l0 (b0 : Bridge) (i3 : Int) : Option (Int ⊕ (Unit ⊕ Bool)) :=
  cond (decide (i3 < (b0.2.2.1.length : Int)))
    ((at? b0.2.2.1 i3).bind fun x14 =>
    (spec_PtOk x14).bind fun t16 =>
    cond (!t16) (some (.inr (.inr false))) (some (.inl (w64 (i3 + 1)))))
    (some (.inr (.inl ())))
noncomputable def spec_BridgeOk (b0 : Bridge) : Option Bool :=
  (loop (fun z => spec_BridgeOk_l0 b0 z) 0).bind (Sum.elim (fun d =>
    (spec_l1In b0.1 1 99).bind fun t20 =>
    (cond t20 (some (decide ((b0.2.1.length : Int) ≤ 10))) (some false)).bind fun t26 =>
    (cond t26
      ((spec_l1In (b0.2.2.1.length : Int) 1 6).bind fun t31 =>
      some t31)
      (some false)).bind fun t32 =>
    (cond t32
      ((spec_FdbOk b0.2.2.2.1).bind fun t36 =>
      some t36)
      (some false)).bind fun t37 =>
    (cond t37
      ((spec_VtabOk (b0.2.2.2.2.1, b0.2.2.2.2.2.1) (b0.2.2.1.length : Int)).bind fun t44 =>
      some t44)
      (some false)).bind fun t45 =>
    (cond t45
      ((spec_l11Counts b0).bind fun t48 =>
      some t48)
      (some false)).bind fun t49 =>
    some t49) (fun r => some r))
noncomputable def F_spec_BridgeOk : Fn := ⟨[.val true cBridge false], [.val false (.one .bool) true], fun a => spec_BridgeOk a⟩
def a_spec_BridgeOk : List (Nat × LoopAnn) := [(0, ⟨⟨[(3, false, [.dat (.int .i64)])], []⟩,
    ⟨[], []⟩, some ⟨[(2, false, [.dat .bool])], []⟩⟩)]
theorem e_spec_BridgeOk : fnDen ⟨tis, fns_193⟩ a_spec_BridgeOk Try.f116 (codeOf Try.f116) [.val true cBridge false] [.val false (.one .bool) true] = fun a => spec_BridgeOk a := by kernel_rfl
theorem m_spec_BridgeOk : Meets Try.prog 116 F_spec_BridgeOk := by
  have h := meets_of (ann := a_spec_BridgeOk) (ps := [.val true cBridge false]) (rs := [.val false (.one .bool) true]) g_193 mixed Try.func116 (by kernel_rfl) (by kernel_rfl : Try.f116.body = some (codeOf Try.f116))
  rw [e_spec_BridgeOk] at h
  exact h
noncomputable def fns_116 : List (FuncId × Fn) := (116, F_spec_BridgeOk) :: fns_193
theorem g_116 : Good Try.prog ⟨tis, fns_116⟩ := g_193.cons m_spec_BridgeOk
noncomputable def spec_OidOk_l0 (o0 : List Int) (i3 : Int) : Option (Int ⊕ (Unit ⊕ Bool)) :=
  cond (decide (i3 < (o0.length : Int)))
    ((at? o0 i3).bind fun x12 =>
    (spec_l1In x12 0 100000).bind fun t14 =>
    cond (!t14) (some (.inr (.inr false))) (some (.inl (w64 (i3 + 1)))))
    (some (.inr (.inl ())))
noncomputable def spec_OidOk (o0 : List Int) : Option Bool :=
  (loop (fun z => spec_OidOk_l0 o0 z) 0).bind (Sum.elim (fun d =>
    (spec_l1In (o0.length : Int) 1 10).bind fun t18 =>
    some t18) (fun r => some r))
noncomputable def F_spec_OidOk : Fn := ⟨[.val false (.one (.sl (.one (.int .i64)))) false], [.val false (.one .bool) true], fun a => spec_OidOk a⟩
def a_spec_OidOk : List (Nat × LoopAnn) := [(0, ⟨⟨[(3, false, [.dat (.int .i64)])], []⟩,
    ⟨[], []⟩, some ⟨[(2, false, [.dat .bool])], []⟩⟩)]
theorem e_spec_OidOk : fnDen ⟨tis, fns_116⟩ a_spec_OidOk Try.f270 (codeOf Try.f270) [.val false (.one (.sl (.one (.int .i64)))) false] [.val false (.one .bool) true] = fun a => spec_OidOk a := by kernel_rfl
theorem m_spec_OidOk : Meets Try.prog 270 F_spec_OidOk := by
  have h := meets_of (ann := a_spec_OidOk) (ps := [.val false (.one (.sl (.one (.int .i64)))) false]) (rs := [.val false (.one .bool) true]) g_116 mixed Try.func270 (by kernel_rfl) (by kernel_rfl : Try.f270.body = some (codeOf Try.f270))
  rw [e_spec_OidOk] at h
  exact h
noncomputable def fns_270 : List (FuncId × Fn) := (270, F_spec_OidOk) :: fns_116
theorem g_270 : Good Try.prog ⟨tis, fns_270⟩ := g_116.cons m_spec_OidOk
noncomputable def spec_l1Clip (n0 : Int) : Option Int :=
  cond (decide (n0 > 2147483647))
    (some 2147483647)
    (cond (decide (n0 < (-2147483648))) (some (-2147483648)) (some n0))
noncomputable def F_spec_l1Clip : Fn := ⟨[.val false (.one (.int .i64)) false], [.val false (.one (.int .i64)) true], fun a => spec_l1Clip a⟩
def a_spec_l1Clip : List (Nat × LoopAnn) := []
theorem e_spec_l1Clip : fnDen ⟨tis, fns_270⟩ a_spec_l1Clip Try.f273 (codeOf Try.f273) [.val false (.one (.int .i64)) false] [.val false (.one (.int .i64)) true] = fun a => spec_l1Clip a := by kernel_rfl
theorem m_spec_l1Clip : Meets Try.prog 273 F_spec_l1Clip := by
  have h := meets_of (ann := a_spec_l1Clip) (ps := [.val false (.one (.int .i64)) false]) (rs := [.val false (.one (.int .i64)) true]) g_270 mixed Try.func273 (by kernel_rfl) (by kernel_rfl : Try.f273.body = some (codeOf Try.f273))
  rw [e_spec_l1Clip] at h
  exact h
noncomputable def fns_273 : List (FuncId × Fn) := (273, F_spec_l1Clip) :: fns_270
theorem g_273 : Good Try.prog ⟨tis, fns_273⟩ := g_270.cons m_spec_l1Clip
noncomputable def spec_ValOk (p0 : Val) : Option Bool :=
  cond (p0.1 == 5)
    (cond (p0.1 == 5)
      ((cond (p0.2.1 == 0) (some (p0.2.2.1 == [])) (some false)).bind fun t16 =>
      (cond t16 (some ((p0.2.2.2.length : Int) == 0)) (some false)).bind fun t22 =>
      some t22)
      (cond (p0.1 == 2)
        ((spec_l1Clip p0.2.1).bind fun t27 =>
        (cond (t27 == p0.2.1) (some (p0.2.2.1 == [])) (some false)).bind fun t35 =>
        (cond t35 (some ((p0.2.2.2.length : Int) == 0)) (some false)).bind fun t41 =>
        some t41)
        (cond (p0.1 == 4)
          ((cond (decide ((p0.2.2.1.length : Int) ≤ 20)) (some (p0.2.1 == 0)) (some false)).bind fun t52 =>
          (cond t52 (some ((p0.2.2.2.length : Int) == 0)) (some false)).bind fun t58 =>
          some t58)
          (cond (p0.1 == 6)
            ((spec_OidOk p0.2.2.2).bind fun t63 =>
            (cond t63 (some (p0.2.1 == 0)) (some false)).bind fun t68 =>
            (cond t68 (some (p0.2.2.1 == [])) (some false)).bind fun t73 =>
            some t73)
            (some false)))))
    (cond (p0.1 == 128)
      (cond (p0.1 == 128)
        ((cond (p0.2.1 == 0) (some (p0.2.2.1 == [])) (some false)).bind fun t16_1 =>
        (cond t16_1 (some ((p0.2.2.2.length : Int) == 0)) (some false)).bind fun t22_1 =>
        some t22_1)
        (cond (p0.1 == 2)
          ((spec_l1Clip p0.2.1).bind fun t27_1 =>
          (cond (t27_1 == p0.2.1) (some (p0.2.2.1 == [])) (some false)).bind fun t35_1 =>
          (cond t35_1 (some ((p0.2.2.2.length : Int) == 0)) (some false)).bind fun t41_1 =>
          some t41_1)
          (cond (p0.1 == 4)
            ((cond (decide ((p0.2.2.1.length : Int) ≤ 20)) (some (p0.2.1 == 0)) (some false)).bind fun t52_1 =>
            (cond t52_1 (some ((p0.2.2.2.length : Int) == 0)) (some false)).bind fun t58_1 =>
            some t58_1)
            (cond (p0.1 == 6)
              ((spec_OidOk p0.2.2.2).bind fun t63_1 =>
              (cond t63_1 (some (p0.2.1 == 0)) (some false)).bind fun t68_1 =>
              (cond t68_1 (some (p0.2.2.1 == [])) (some false)).bind fun t73_1 =>
              some t73_1)
              (some false)))))
      (cond (p0.1 == 130)
        ((cond (p0.2.1 == 0) (some (p0.2.2.1 == [])) (some false)).bind fun t16_2 =>
        (cond t16_2 (some ((p0.2.2.2.length : Int) == 0)) (some false)).bind fun t22_2 =>
        some t22_2)
        (cond (p0.1 == 2)
          ((spec_l1Clip p0.2.1).bind fun t27_2 =>
          (cond (t27_2 == p0.2.1) (some (p0.2.2.1 == [])) (some false)).bind fun t35_2 =>
          (cond t35_2 (some ((p0.2.2.2.length : Int) == 0)) (some false)).bind fun t41_2 =>
          some t41_2)
          (cond (p0.1 == 4)
            ((cond (decide ((p0.2.2.1.length : Int) ≤ 20)) (some (p0.2.1 == 0)) (some false)).bind fun t52_2 =>
            (cond t52_2 (some ((p0.2.2.2.length : Int) == 0)) (some false)).bind fun t58_2 =>
            some t58_2)
            (cond (p0.1 == 6)
              ((spec_OidOk p0.2.2.2).bind fun t63_2 =>
              (cond t63_2 (some (p0.2.1 == 0)) (some false)).bind fun t68_2 =>
              (cond t68_2 (some (p0.2.2.1 == [])) (some false)).bind fun t73_2 =>
              some t73_2)
              (some false))))))
noncomputable def F_spec_ValOk : Fn := ⟨[.val true cVal false], [.val false (.one .bool) true], fun a => spec_ValOk a⟩
def a_spec_ValOk : List (Nat × LoopAnn) := []
theorem e_spec_ValOk : fnDen ⟨tis, fns_273⟩ a_spec_ValOk Try.f271 (codeOf Try.f271) [.val true cVal false] [.val false (.one .bool) true] = fun a => spec_ValOk a := by kernel_rfl
theorem m_spec_ValOk : Meets Try.prog 271 F_spec_ValOk := by
  have h := meets_of (ann := a_spec_ValOk) (ps := [.val true cVal false]) (rs := [.val false (.one .bool) true]) g_273 mixed Try.func271 (by kernel_rfl) (by kernel_rfl : Try.f271.body = some (codeOf Try.f271))
  rw [e_spec_ValOk] at h
  exact h
noncomputable def fns_271 : List (FuncId × Fn) := (271, F_spec_ValOk) :: fns_273
theorem g_271 : Good Try.prog ⟨tis, fns_271⟩ := g_273.cons m_spec_ValOk
noncomputable def spec_l4Kind (k0 : Int) : Option Bool :=
  (cond (k0 == 160) (some true) (some (k0 == 161))).bind fun t8 =>
  (cond t8 (some true) (some (k0 == 162))).bind fun t12 =>
  (cond t12 (some true) (some (k0 == 163))).bind fun t16 =>
  (cond t16 (some true) (some (k0 == 165))).bind fun t20 =>
  some t20
noncomputable def F_spec_l4Kind : Fn := ⟨[.val false (.one (.int .i64)) false], [.val false (.one .bool) true], fun a => spec_l4Kind a⟩
def a_spec_l4Kind : List (Nat × LoopAnn) := []
theorem e_spec_l4Kind : fnDen ⟨tis, fns_271⟩ a_spec_l4Kind Try.f272 (codeOf Try.f272) [.val false (.one (.int .i64)) false] [.val false (.one .bool) true] = fun a => spec_l4Kind a := by kernel_rfl
theorem m_spec_l4Kind : Meets Try.prog 272 F_spec_l4Kind := by
  have h := meets_of (ann := a_spec_l4Kind) (ps := [.val false (.one (.int .i64)) false]) (rs := [.val false (.one .bool) true]) g_271 mixed Try.func272 (by kernel_rfl) (by kernel_rfl : Try.f272.body = some (codeOf Try.f272))
  rw [e_spec_l4Kind] at h
  exact h
noncomputable def fns_272 : List (FuncId × Fn) := (272, F_spec_l4Kind) :: fns_271
theorem g_272 : Good Try.prog ⟨tis, fns_272⟩ := g_271.cons m_spec_l4Kind
noncomputable def spec_PduOk_l0 (p0 : Pdu) (t3 : Int) : Option (Int ⊕ (Unit ⊕ Bool)) :=
  cond (decide (t3 < (p0.2.2.2.2.length : Int)))
    ((at? p0.2.2.2.2 t3).bind fun x14 =>
    (spec_OidOk x14.1).bind fun t17 =>
    (cond (!t17)
      (some true)
      ((at? p0.2.2.2.2 t3).bind fun x23 =>
      (spec_ValOk x23.2).bind fun t26 =>
      some (!t26))).bind fun t28 =>
    cond t28 (some (.inr (.inr false))) (some (.inl (w64 (t3 + 1)))))
    (some (.inr (.inl ())))
noncomputable def spec_PduOk (p0 : Pdu) : Option Bool :=
  (loop (fun z => spec_PduOk_l0 p0 z) 0).bind (Sum.elim (fun d =>
    (cond (p0.1 != 162) (some (p0.1 != 165)) (some false)).bind fun t36 =>
    (cond t36
      ((cond (p0.2.2.1 != 0) (some true) (some (p0.2.2.2.1 != 0))).bind fun t45 =>
      some t45)
      (some false)).bind fun t46 =>
    cond t46
      (some false)
      ((spec_l4Kind p0.1).bind fun t49 =>
      (cond t49
        ((spec_l1Clip p0.2.1).bind fun t53 =>
        some (t53 == p0.2.1))
        (some false)).bind fun t57 =>
      (cond t57
        ((spec_l1In p0.2.2.1 0 1000).bind fun t61 =>
        some t61)
        (some false)).bind fun t62 =>
      (cond t62
        ((spec_l1In p0.2.2.2.1 0 1000).bind fun t66 =>
        some t66)
        (some false)).bind fun t67 =>
      (cond t67 (some (decide ((p0.2.2.2.2.length : Int) ≤ 10))) (some false)).bind fun t73 =>
      some t73)) (fun r => some r))
noncomputable def F_spec_PduOk : Fn := ⟨[.val true cPdu false], [.val false (.one .bool) true], fun a => spec_PduOk a⟩
def a_spec_PduOk : List (Nat × LoopAnn) := [(0, ⟨⟨[(3, false, [.dat (.int .i64)]), (20, false, [.undef]), (21, false, [.undef]), (22, false, [.undef]), (23, false, [.undef]), (24, false, [.undef]), (25, false, [.undef]), (26, false, [.undef]), (27, false, [.undef])], []⟩,
    ⟨[], []⟩, some ⟨[(2, false, [.dat .bool])], []⟩⟩)]
theorem e_spec_PduOk : fnDen ⟨tis, fns_272⟩ a_spec_PduOk Try.f250 (codeOf Try.f250) [.val true cPdu false] [.val false (.one .bool) true] = fun a => spec_PduOk a := by kernel_rfl
theorem m_spec_PduOk : Meets Try.prog 250 F_spec_PduOk := by
  have h := meets_of (ann := a_spec_PduOk) (ps := [.val true cPdu false]) (rs := [.val false (.one .bool) true]) g_272 mixed Try.func250 (by kernel_rfl) (by kernel_rfl : Try.f250.body = some (codeOf Try.f250))
  rw [e_spec_PduOk] at h
  exact h
noncomputable def fns_250 : List (FuncId × Fn) := (250, F_spec_PduOk) :: fns_272
theorem g_250 : Good Try.prog ⟨tis, fns_250⟩ := g_272.cons m_spec_PduOk
noncomputable def spec_l20Asks (p0 : Pdu) : Option Bool :=
  (spec_PduOk p0).bind fun t4 =>
  (cond t4 (some (p0.1 != 162)) (some false)).bind fun t9 =>
  some t9
noncomputable def F_spec_l20Asks : Fn := ⟨[.val true cPdu false], [.val false (.one .bool) true], fun a => spec_l20Asks a⟩
def a_spec_l20Asks : List (Nat × LoopAnn) := []
theorem e_spec_l20Asks : fnDen ⟨tis, fns_250⟩ a_spec_l20Asks Try.f189 (codeOf Try.f189) [.val true cPdu false] [.val false (.one .bool) true] = fun a => spec_l20Asks a := by kernel_rfl
theorem m_spec_l20Asks : Meets Try.prog 189 F_spec_l20Asks := by
  have h := meets_of (ann := a_spec_l20Asks) (ps := [.val true cPdu false]) (rs := [.val false (.one .bool) true]) g_250 mixed Try.func189 (by kernel_rfl) (by kernel_rfl : Try.f189.body = some (codeOf Try.f189))
  rw [e_spec_l20Asks] at h
  exact h
noncomputable def fns_189 : List (FuncId × Fn) := (189, F_spec_l20Asks) :: fns_250
theorem g_189 : Good Try.prog ⟨tis, fns_189⟩ := g_250.cons m_spec_l20Asks
noncomputable def spec_l20Job (j0 : Job) (last1 : Int) : Option Bool :=
  (spec_l1In j0.1 1 last1).bind fun t8 =>
  (cond (!t8)
    (some true)
    ((spec_l1In j0.2.2.1 0 2).bind fun t13 =>
    some (!t13))).bind fun t15 =>
  (cond t15
    (some true)
    ((spec_l1In j0.2.2.2.2.2.2.2.2.2.2.2.2.2.2.2.2.2.2.2.2 0 3).bind fun t19 =>
    some (!t19))).bind fun t21 =>
  (cond t21
    (some true)
    ((spec_l1In j0.2.2.2.2.2.2.2.2.2.2.2.2.2.2.2.2.2.2.2.1 0 (j0.2.2.2.2.2.2.2.1.length : Int)).bind fun t29 =>
    some (!t29))).bind fun t31 =>
  cond t31
    (some false)
    ((cond (j0.2.2.1 == 0)
      (some true)
      ((spec_l20Asks (j0.2.2.2.1, j0.2.2.2.2.1, j0.2.2.2.2.2.1, j0.2.2.2.2.2.2.1, j0.2.2.2.2.2.2.2.1)).bind fun t38 =>
      (cond t38
        ((spec_BridgeOk (j0.2.2.2.2.2.2.2.2.1, j0.2.2.2.2.2.2.2.2.2.1, j0.2.2.2.2.2.2.2.2.2.2.1, j0.2.2.2.2.2.2.2.2.2.2.2.1, j0.2.2.2.2.2.2.2.2.2.2.2.2.1, j0.2.2.2.2.2.2.2.2.2.2.2.2.2.1, j0.2.2.2.2.2.2.2.2.2.2.2.2.2.2.1, j0.2.2.2.2.2.2.2.2.2.2.2.2.2.2.2.1, j0.2.2.2.2.2.2.2.2.2.2.2.2.2.2.2.2.1, j0.2.2.2.2.2.2.2.2.2.2.2.2.2.2.2.2.2.1, j0.2.2.2.2.2.2.2.2.2.2.2.2.2.2.2.2.2.2.1)).bind fun t42 =>
        some t42)
        (some false)).bind fun t43 =>
      some t43)).bind fun t44 =>
    some t44)
noncomputable def F_spec_l20Job : Fn := ⟨[.val true cJob false, .val false (.one (.int .i64)) false], [.val false (.one .bool) true], fun a => spec_l20Job a.1 a.2⟩
def a_spec_l20Job : List (Nat × LoopAnn) := []
theorem e_spec_l20Job : fnDen ⟨tis, fns_189⟩ a_spec_l20Job Try.f115 (codeOf Try.f115) [.val true cJob false, .val false (.one (.int .i64)) false] [.val false (.one .bool) true] = fun a => spec_l20Job a.1 a.2 := by kernel_rfl
theorem m_spec_l20Job : Meets Try.prog 115 F_spec_l20Job := by
  have h := meets_of (ann := a_spec_l20Job) (ps := [.val true cJob false, .val false (.one (.int .i64)) false]) (rs := [.val false (.one .bool) true]) g_189 mixed Try.func115 (by kernel_rfl) (by kernel_rfl : Try.f115.body = some (codeOf Try.f115))
  rw [e_spec_l20Job] at h
  exact h
noncomputable def fns_115 : List (FuncId × Fn) := (115, F_spec_l20Job) :: fns_189
theorem g_115 : Good Try.prog ⟨tis, fns_115⟩ := g_189.cons m_spec_l20Job
noncomputable def spec_AgentOk_l0 (p0 : Agent) (t3 : Int) : Option (Int ⊕ (Unit ⊕ Bool)) :=
  cond (decide (t3 < (p0.2.2.2.2.2.2.2.2.2.2.2.2.1.length : Int)))
    ((at? p0.2.2.2.2.2.2.2.2.2.2.2.2.1 t3).bind fun x14 =>
    (spec_l20Job x14 p0.2.2.2.2.2.2.2.2.2.2.2.2.2.2).bind fun t18 =>
    (cond (!t18)
      (some true)
      ((cond (decide (t3 > 0))
        ((at? p0.2.2.2.2.2.2.2.2.2.2.2.2.1 (w64 (t3 - 1))).bind fun x28 =>
        (at? p0.2.2.2.2.2.2.2.2.2.2.2.2.1 t3).bind fun x34 =>
        some (decide (x28.1 ≥ x34.1)))
        (some false)).bind fun t38 =>
      some t38)).bind fun t39 =>
    cond t39 (some (.inr (.inr false))) (some (.inl (w64 (t3 + 1)))))
    (some (.inr (.inl ())))
noncomputable def spec_AgentOk (p0 : Agent) : Option Bool :=
  (loop (fun z => spec_AgentOk_l0 p0 z) 0).bind (Sum.elim (fun d =>
    (spec_BridgeOk (p0.1, p0.2.1, p0.2.2.1, p0.2.2.2.1, p0.2.2.2.2.1, p0.2.2.2.2.2.1, p0.2.2.2.2.2.2.1, p0.2.2.2.2.2.2.2.1, p0.2.2.2.2.2.2.2.2.1, p0.2.2.2.2.2.2.2.2.2.1, p0.2.2.2.2.2.2.2.2.2.2.1)).bind fun t42 =>
    (cond t42
      (some (decide ((p0.2.2.2.2.2.2.2.2.2.2.2.1.length : Int) ≤ 20)))
      (some false)).bind fun t48 =>
    (cond t48
      (some (decide ((p0.2.2.2.2.2.2.2.2.2.2.2.2.1.length : Int) ≤ 6)))
      (some false)).bind fun t54 =>
    (cond t54
      ((spec_l1In p0.2.2.2.2.2.2.2.2.2.2.2.2.2.1 0 1000000).bind fun t58 =>
      some t58)
      (some false)).bind fun t59 =>
    (cond t59
      ((spec_l1In p0.2.2.2.2.2.2.2.2.2.2.2.2.2.2 0 1000000).bind fun t63 =>
      some t63)
      (some false)).bind fun t64 =>
    some t64) (fun r => some r))
noncomputable def F_spec_AgentOk : Fn := ⟨[.val true cAgent false], [.val false (.one .bool) true], fun a => spec_AgentOk a⟩
def a_spec_AgentOk : List (Nat × LoopAnn) := [(0, ⟨⟨[(3, false, [.dat (.int .i64)]), (21, false, [.undef]), (22, false, [.undef]), (23, false, [.undef]), (24, false, [.undef]), (25, false, [.undef]), (26, false, [.undef]), (27, false, [.undef]), (28, false, [.undef]), (29, false, [.undef]), (30, false, [.undef]), (31, false, [.undef]), (32, false, [.undef]), (33, false, [.undef]), (34, false, [.undef]), (35, false, [.undef]), (36, false, [.undef]), (37, false, [.undef]), (38, false, [.undef])], []⟩,
    ⟨[], []⟩, some ⟨[(2, false, [.dat .bool])], []⟩⟩)]
theorem e_spec_AgentOk : fnDen ⟨tis, fns_115⟩ a_spec_AgentOk Try.f45 (codeOf Try.f45) [.val true cAgent false] [.val false (.one .bool) true] = fun a => spec_AgentOk a := by kernel_rfl
theorem m_spec_AgentOk : Meets Try.prog 45 F_spec_AgentOk := by
  have h := meets_of (ann := a_spec_AgentOk) (ps := [.val true cAgent false]) (rs := [.val false (.one .bool) true]) g_115 mixed Try.func45 (by kernel_rfl) (by kernel_rfl : Try.f45.body = some (codeOf Try.f45))
  rw [e_spec_AgentOk] at h
  exact h
noncomputable def fns_45 : List (FuncId × Fn) := (45, F_spec_AgentOk) :: fns_115
theorem g_45 : Good Try.prog ⟨tis, fns_45⟩ := g_115.cons m_spec_AgentOk
noncomputable def laws_toVec (a0 : Vec) : Option Vec :=
  some a0
noncomputable def F_laws_toVec : Fn := ⟨[.val true cVec false], [.val true cVec true], fun a => laws_toVec a⟩
def a_laws_toVec : List (Nat × LoopAnn) := []
theorem e_laws_toVec : fnDen ⟨tis, fns_45⟩ a_laws_toVec Try.f209 (codeOf Try.f209) [.val true cVec false] [.val true cVec true] = fun a => laws_toVec a := by kernel_rfl
theorem m_laws_toVec : Meets Try.prog 209 F_laws_toVec := by
  have h := meets_of (ann := a_laws_toVec) (ps := [.val true cVec false]) (rs := [.val true cVec true]) g_45 mixed Try.func209 (by kernel_rfl) (by kernel_rfl : Try.f209.body = some (codeOf Try.f209))
  rw [e_laws_toVec] at h
  exact h
noncomputable def fns_209 : List (FuncId × Fn) := (209, F_laws_toVec) :: fns_45
theorem g_209 : Good Try.prog ⟨tis, fns_209⟩ := g_45.cons m_laws_toVec
noncomputable def laws_toPt (a0 : Pt) : Option Pt :=
  (laws_toVec a0.2.2.2).bind fun t15 =>
  some (a0.1, a0.2.1, a0.2.2.1, t15.1, t15.2.1, t15.2.2.1, t15.2.2.2.1, t15.2.2.2.2)
noncomputable def F_laws_toPt : Fn := ⟨[.val true cPt false], [.val true cPt true], fun a => laws_toPt a⟩
def a_laws_toPt : List (Nat × LoopAnn) := []
theorem e_laws_toPt : fnDen ⟨tis, fns_209⟩ a_laws_toPt Try.f142 (codeOf Try.f142) [.val true cPt false] [.val true cPt true] = fun a => laws_toPt a := by kernel_rfl
theorem m_laws_toPt : Meets Try.prog 142 F_laws_toPt := by
  have h := meets_of (ann := a_laws_toPt) (ps := [.val true cPt false]) (rs := [.val true cPt true]) g_209 mixed Try.func142 (by kernel_rfl) (by kernel_rfl : Try.f142.body = some (codeOf Try.f142))
  rw [e_laws_toPt] at h
  exact h
noncomputable def fns_142 : List (FuncId × Fn) := (142, F_laws_toPt) :: fns_209
theorem g_142 : Good Try.prog ⟨tis, fns_142⟩ := g_209.cons m_laws_toPt
noncomputable def laws_toPtS_l0 (a0 : List Pt) (i4 : Int) (l : List Pt) : Option ((Int × List Pt) ⊕ (List Pt)) :=
  cond (decide (i4 < (a0.length : Int)))
    ((at? a0 i4).bind fun x18 =>
    (laws_toPt x18).bind fun t20 =>
    (ix l.length i4).bind fun j21 =>
    (l[j21]?).bind fun x =>
    some (.inl (w64 (i4 + 1), l.set j21 t20)))
    (some (.inr l))
noncomputable def laws_toPtS (a0 : List Pt) : Option (List Pt) :=
  (mkLen (a0.length : Int)).bind fun n =>
  (loop (fun z => laws_toPtS_l0 a0 z.1 z.2) (0, List.replicate n ((false, 0, false, 0, 0, 0, 0, 0) : Pt))).bind fun d =>
  some d
noncomputable def F_laws_toPtS : Fn := ⟨[.val false (.one (.sl cPt)) false], [.val false (.one (.sl cPt)) true], fun a => laws_toPtS a⟩
def a_laws_toPtS : List (Nat × LoopAnn) := [(0, ⟨⟨[(4, false, [.dat (.int .i64)])], [(265216, .keep cPt true)]⟩,
    ⟨[], [(265216, .keep cPt true)]⟩, none⟩)]
theorem e_laws_toPtS : fnDen ⟨tis, fns_142⟩ a_laws_toPtS Try.f69 (codeOf Try.f69) [.val false (.one (.sl cPt)) false] [.val false (.one (.sl cPt)) true] = fun a => laws_toPtS a := by kernel_rfl
theorem m_laws_toPtS : Meets Try.prog 69 F_laws_toPtS := by
  have h := meets_of (ann := a_laws_toPtS) (ps := [.val false (.one (.sl cPt)) false]) (rs := [.val false (.one (.sl cPt)) true]) g_142 mixed Try.func69 (by kernel_rfl) (by kernel_rfl : Try.f69.body = some (codeOf Try.f69))
  rw [e_laws_toPtS] at h
  exact h
noncomputable def fns_69 : List (FuncId × Fn) := (69, F_laws_toPtS) :: fns_142
theorem g_69 : Good Try.prog ⟨tis, fns_69⟩ := g_142.cons m_laws_toPtS
noncomputable def laws_toFent (a0 : Fent) : Option Fent :=
  some a0
noncomputable def F_laws_toFent : Fn := ⟨[.val true cFent false], [.val true cFent true], fun a => laws_toFent a⟩
def a_laws_toFent : List (Nat × LoopAnn) := []
theorem e_laws_toFent : fnDen ⟨tis, fns_69⟩ a_laws_toFent Try.f143 (codeOf Try.f143) [.val true cFent false] [.val true cFent true] = fun a => laws_toFent a := by kernel_rfl
theorem m_laws_toFent : Meets Try.prog 143 F_laws_toFent := by
  have h := meets_of (ann := a_laws_toFent) (ps := [.val true cFent false]) (rs := [.val true cFent true]) g_69 mixed Try.func143 (by kernel_rfl) (by kernel_rfl : Try.f143.body = some (codeOf Try.f143))
  rw [e_laws_toFent] at h
  exact h
noncomputable def fns_143 : List (FuncId × Fn) := (143, F_laws_toFent) :: fns_69
theorem g_143 : Good Try.prog ⟨tis, fns_143⟩ := g_69.cons m_laws_toFent
noncomputable def laws_toFentS_l0 (a0 : List Fent) (i4 : Int) (l : List Fent) : Option ((Int × List Fent) ⊕ (List Fent)) :=
  cond (decide (i4 < (a0.length : Int)))
    ((at? a0 i4).bind fun x18 =>
    (laws_toFent x18).bind fun t20 =>
    (ix l.length i4).bind fun j21 =>
    (l[j21]?).bind fun x =>
    some (.inl (w64 (i4 + 1), l.set j21 t20)))
    (some (.inr l))
noncomputable def laws_toFentS (a0 : List Fent) : Option (List Fent) :=
  (mkLen (a0.length : Int)).bind fun n =>
  (loop (fun z => laws_toFentS_l0 a0 z.1 z.2) (0, List.replicate n ((0, 0, 0, 0, false) : Fent))).bind fun d =>
  some d
noncomputable def F_laws_toFentS : Fn := ⟨[.val false (.one (.sl cFent)) false], [.val false (.one (.sl cFent)) true], fun a => laws_toFentS a⟩
def a_laws_toFentS : List (Nat × LoopAnn) := [(0, ⟨⟨[(4, false, [.dat (.int .i64)])], [(265216, .keep cFent true)]⟩,
    ⟨[], [(265216, .keep cFent true)]⟩, none⟩)]
theorem e_laws_toFentS : fnDen ⟨tis, fns_143⟩ a_laws_toFentS Try.f70 (codeOf Try.f70) [.val false (.one (.sl cFent)) false] [.val false (.one (.sl cFent)) true] = fun a => laws_toFentS a := by kernel_rfl
theorem m_laws_toFentS : Meets Try.prog 70 F_laws_toFentS := by
  have h := meets_of (ann := a_laws_toFentS) (ps := [.val false (.one (.sl cFent)) false]) (rs := [.val false (.one (.sl cFent)) true]) g_143 mixed Try.func70 (by kernel_rfl) (by kernel_rfl : Try.f70.body = some (codeOf Try.f70))
  rw [e_laws_toFentS] at h
  exact h
noncomputable def fns_70 : List (FuncId × Fn) := (70, F_laws_toFentS) :: fns_143
theorem g_70 : Good Try.prog ⟨tis, fns_70⟩ := g_143.cons m_laws_toFentS
noncomputable def laws_toIntS_l0 (a0 : List Int) (i4 : Int) (l : List Int) : Option ((Int × List Int) ⊕ (List Int)) :=
  cond (decide (i4 < (a0.length : Int)))
    ((at? a0 i4).bind fun x18 =>
    (ix l.length i4).bind fun j20 =>
    (l[j20]?).bind fun x =>
    some (.inl (w64 (i4 + 1), l.set j20 x18)))
    (some (.inr l))
noncomputable def laws_toIntS (a0 : List Int) : Option (List Int) :=
  (mkLen (a0.length : Int)).bind fun n =>
  (loop (fun z => laws_toIntS_l0 a0 z.1 z.2) (0, List.replicate n (0 : Int))).bind fun d =>
  some d
noncomputable def F_laws_toIntS : Fn := ⟨[.val false (.one (.sl (.one (.int .i64)))) false], [.val false (.one (.sl (.one (.int .i64)))) true], fun a => laws_toIntS a⟩
def a_laws_toIntS : List (Nat × LoopAnn) := [(0, ⟨⟨[(4, false, [.dat (.int .i64)])], [(265216, .keep (.one (.int .i64)) true)]⟩,
    ⟨[], [(265216, .keep (.one (.int .i64)) true)]⟩, none⟩)]
theorem e_laws_toIntS : fnDen ⟨tis, fns_70⟩ a_laws_toIntS Try.f15 (codeOf Try.f15) [.val false (.one (.sl (.one (.int .i64)))) false] [.val false (.one (.sl (.one (.int .i64)))) true] = fun a => laws_toIntS a := by kernel_rfl
theorem m_laws_toIntS : Meets Try.prog 15 F_laws_toIntS := by
  have h := meets_of (ann := a_laws_toIntS) (ps := [.val false (.one (.sl (.one (.int .i64)))) false]) (rs := [.val false (.one (.sl (.one (.int .i64)))) true]) g_70 mixed Try.func15 (by kernel_rfl) (by kernel_rfl : Try.f15.body = some (codeOf Try.f15))
  rw [e_laws_toIntS] at h
  exact h
noncomputable def fns_15 : List (FuncId × Fn) := (15, F_laws_toIntS) :: fns_70
theorem g_15 : Good Try.prog ⟨tis, fns_15⟩ := g_70.cons m_laws_toIntS
noncomputable def laws_toVrow (a0 : Vrow) : Option Vrow :=
  some a0
noncomputable def F_laws_toVrow : Fn := ⟨[.val true cVrow false], [.val true cVrow true], fun a => laws_toVrow a⟩
def a_laws_toVrow : List (Nat × LoopAnn) := []
theorem e_laws_toVrow : fnDen ⟨tis, fns_15⟩ a_laws_toVrow Try.f210 (codeOf Try.f210) [.val true cVrow false] [.val true cVrow true] = fun a => laws_toVrow a := by kernel_rfl
theorem m_laws_toVrow : Meets Try.prog 210 F_laws_toVrow := by
  have h := meets_of (ann := a_laws_toVrow) (ps := [.val true cVrow false]) (rs := [.val true cVrow true]) g_15 mixed Try.func210 (by kernel_rfl) (by kernel_rfl : Try.f210.body = some (codeOf Try.f210))
  rw [e_laws_toVrow] at h
  exact h
noncomputable def fns_210 : List (FuncId × Fn) := (210, F_laws_toVrow) :: fns_15
theorem g_210 : Good Try.prog ⟨tis, fns_210⟩ := g_15.cons m_laws_toVrow
noncomputable def laws_toVrowS_l0 (a0 : List Vrow) (i4 : Int) (l : List Vrow) : Option ((Int × List Vrow) ⊕ (List Vrow)) :=
  cond (decide (i4 < (a0.length : Int)))
    ((at? a0 i4).bind fun x18 =>
    (laws_toVrow x18).bind fun t20 =>
    (ix l.length i4).bind fun j21 =>
    (l[j21]?).bind fun x =>
    some (.inl (w64 (i4 + 1), l.set j21 t20)))
    (some (.inr l))
noncomputable def laws_toVrowS (a0 : List Vrow) : Option (List Vrow) :=
  (mkLen (a0.length : Int)).bind fun n =>
  (loop (fun z => laws_toVrowS_l0 a0 z.1 z.2) (0, List.replicate n ((0, 0, 0) : Vrow))).bind fun d =>
  some d
noncomputable def F_laws_toVrowS : Fn := ⟨[.val false (.one (.sl cVrow)) false], [.val false (.one (.sl cVrow)) true], fun a => laws_toVrowS a⟩
def a_laws_toVrowS : List (Nat × LoopAnn) := [(0, ⟨⟨[(4, false, [.dat (.int .i64)])], [(265216, .keep cVrow true)]⟩,
    ⟨[], [(265216, .keep cVrow true)]⟩, none⟩)]
theorem e_laws_toVrowS : fnDen ⟨tis, fns_210⟩ a_laws_toVrowS Try.f144 (codeOf Try.f144) [.val false (.one (.sl cVrow)) false] [.val false (.one (.sl cVrow)) true] = fun a => laws_toVrowS a := by kernel_rfl
theorem m_laws_toVrowS : Meets Try.prog 144 F_laws_toVrowS := by
  have h := meets_of (ann := a_laws_toVrowS) (ps := [.val false (.one (.sl cVrow)) false]) (rs := [.val false (.one (.sl cVrow)) true]) g_210 mixed Try.func144 (by kernel_rfl) (by kernel_rfl : Try.f144.body = some (codeOf Try.f144))
  rw [e_laws_toVrowS] at h
  exact h
noncomputable def fns_144 : List (FuncId × Fn) := (144, F_laws_toVrowS) :: fns_210
theorem g_144 : Good Try.prog ⟨tis, fns_144⟩ := g_210.cons m_laws_toVrowS
noncomputable def laws_toVtab (a0 : Vtab) : Option Vtab :=
  (laws_toVrowS a0.1).bind fun t6 =>
  (laws_toIntS a0.2).bind fun t10 =>
  some (t6, t10)
noncomputable def F_laws_toVtab : Fn := ⟨[.val true cVtab false], [.val true cVtab true], fun a => laws_toVtab a⟩
def a_laws_toVtab : List (Nat × LoopAnn) := []
theorem e_laws_toVtab : fnDen ⟨tis, fns_144⟩ a_laws_toVtab Try.f71 (codeOf Try.f71) [.val true cVtab false] [.val true cVtab true] = fun a => laws_toVtab a := by kernel_rfl
theorem m_laws_toVtab : Meets Try.prog 71 F_laws_toVtab := by
  have h := meets_of (ann := a_laws_toVtab) (ps := [.val true cVtab false]) (rs := [.val true cVtab true]) g_144 mixed Try.func71 (by kernel_rfl) (by kernel_rfl : Try.f71.body = some (codeOf Try.f71))
  rw [e_laws_toVtab] at h
  exact h
noncomputable def fns_71 : List (FuncId × Fn) := (71, F_laws_toVtab) :: fns_144
theorem g_71 : Good Try.prog ⟨tis, fns_71⟩ := g_144.cons m_laws_toVtab
noncomputable def laws_toBridge (a0 : Bridge) : Option Bridge :=
  (laws_toPtS a0.2.2.1).bind fun t12 =>
  (laws_toFentS a0.2.2.2.1).bind fun t16 =>
  (laws_toVtab (a0.2.2.2.2.1, a0.2.2.2.2.2.1)).bind fun t20 =>
  some (a0.1, a0.2.1, t12, t16, t20.1, t20.2, a0.2.2.2.2.2.2.1, a0.2.2.2.2.2.2.2.1, a0.2.2.2.2.2.2.2.2.1, a0.2.2.2.2.2.2.2.2.2.1, a0.2.2.2.2.2.2.2.2.2.2)
noncomputable def F_laws_toBridge : Fn := ⟨[.val true cBridge false], [.val true cBridge true], fun a => laws_toBridge a⟩
def a_laws_toBridge : List (Nat × LoopAnn) := []
theorem e_laws_toBridge : fnDen ⟨tis, fns_71⟩ a_laws_toBridge Try.f14 (codeOf Try.f14) [.val true cBridge false] [.val true cBridge true] = fun a => laws_toBridge a := by kernel_rfl
theorem m_laws_toBridge : Meets Try.prog 14 F_laws_toBridge := by
  have h := meets_of (ann := a_laws_toBridge) (ps := [.val true cBridge false]) (rs := [.val true cBridge true]) g_71 mixed Try.func14 (by kernel_rfl) (by kernel_rfl : Try.f14.body = some (codeOf Try.f14))
  rw [e_laws_toBridge] at h
  exact h
noncomputable def fns_14 : List (FuncId × Fn) := (14, F_laws_toBridge) :: fns_71
theorem g_14 : Good Try.prog ⟨tis, fns_14⟩ := g_71.cons m_laws_toBridge
noncomputable def laws_toByteS_l0 (a0 : List Int) (i4 : Int) (l : List Int) : Option ((Int × List Int) ⊕ (List Int)) :=
  cond (decide (i4 < (a0.length : Int)))
    ((at? a0 i4).bind fun x18 =>
    (ix l.length i4).bind fun j20 =>
    (l[j20]?).bind fun x =>
    some (.inl (w64 (i4 + 1), l.set j20 x18)))
    (some (.inr l))
noncomputable def laws_toByteS (a0 : List Int) : Option (List Int) :=
  (mkLen (a0.length : Int)).bind fun n =>
  (loop (fun z => laws_toByteS_l0 a0 z.1 z.2) (0, List.replicate n (0 : Int))).bind fun d =>
  some d
noncomputable def F_laws_toByteS : Fn := ⟨[.val false (.one (.sl (.one (.int .u8)))) false], [.val false (.one (.sl (.one (.int .u8)))) true], fun a => laws_toByteS a⟩
def a_laws_toByteS : List (Nat × LoopAnn) := [(0, ⟨⟨[(4, false, [.dat (.int .i64)])], [(265216, .keep (.one (.int .u8)) true)]⟩,
    ⟨[], [(265216, .keep (.one (.int .u8)) true)]⟩, none⟩)]
theorem e_laws_toByteS : fnDen ⟨tis, fns_14⟩ a_laws_toByteS Try.f254 (codeOf Try.f254) [.val false (.one (.sl (.one (.int .u8)))) false] [.val false (.one (.sl (.one (.int .u8)))) true] = fun a => laws_toByteS a := by kernel_rfl
theorem m_laws_toByteS : Meets Try.prog 254 F_laws_toByteS := by
  have h := meets_of (ann := a_laws_toByteS) (ps := [.val false (.one (.sl (.one (.int .u8)))) false]) (rs := [.val false (.one (.sl (.one (.int .u8)))) true]) g_14 mixed Try.func254 (by kernel_rfl) (by kernel_rfl : Try.f254.body = some (codeOf Try.f254))
  rw [e_laws_toByteS] at h
  exact h
noncomputable def fns_254 : List (FuncId × Fn) := (254, F_laws_toByteS) :: fns_14
theorem g_254 : Good Try.prog ⟨tis, fns_254⟩ := g_14.cons m_laws_toByteS
noncomputable def laws_toVal (a0 : Val) : Option Val :=
  (laws_toIntS a0.2.2.2).bind fun t15 =>
  some (a0.1, a0.2.1, a0.2.2.1, t15)
noncomputable def F_laws_toVal : Fn := ⟨[.val true cVal false], [.val true cVal true], fun a => laws_toVal a⟩
def a_laws_toVal : List (Nat × LoopAnn) := []
theorem e_laws_toVal : fnDen ⟨tis, fns_254⟩ a_laws_toVal Try.f132 (codeOf Try.f132) [.val true cVal false] [.val true cVal true] = fun a => laws_toVal a := by kernel_rfl
theorem m_laws_toVal : Meets Try.prog 132 F_laws_toVal := by
  have h := meets_of (ann := a_laws_toVal) (ps := [.val true cVal false]) (rs := [.val true cVal true]) g_254 mixed Try.func132 (by kernel_rfl) (by kernel_rfl : Try.f132.body = some (codeOf Try.f132))
  rw [e_laws_toVal] at h
  exact h
noncomputable def fns_132 : List (FuncId × Fn) := (132, F_laws_toVal) :: fns_254
theorem g_132 : Good Try.prog ⟨tis, fns_132⟩ := g_254.cons m_laws_toVal
noncomputable def laws_toBind (a0 : Bind) : Option Bind :=
  (laws_toIntS a0.1).bind fun t6 =>
  (laws_toVal a0.2).bind fun t10 =>
  some (t6, t10.1, t10.2.1, t10.2.2.1, t10.2.2.2)
noncomputable def F_laws_toBind : Fn := ⟨[.val true cBind false], [.val true cBind true], fun a => laws_toBind a⟩
def a_laws_toBind : List (Nat × LoopAnn) := []
theorem e_laws_toBind : fnDen ⟨tis, fns_132⟩ a_laws_toBind Try.f60 (codeOf Try.f60) [.val true cBind false] [.val true cBind true] = fun a => laws_toBind a := by kernel_rfl
theorem m_laws_toBind : Meets Try.prog 60 F_laws_toBind := by
  have h := meets_of (ann := a_laws_toBind) (ps := [.val true cBind false]) (rs := [.val true cBind true]) g_132 mixed Try.func60 (by kernel_rfl) (by kernel_rfl : Try.f60.body = some (codeOf Try.f60))
  rw [e_laws_toBind] at h
  exact h
noncomputable def fns_60 : List (FuncId × Fn) := (60, F_laws_toBind) :: fns_132
theorem g_60 : Good Try.prog ⟨tis, fns_60⟩ := g_132.cons m_laws_toBind
noncomputable def laws_toBindS_l0 (a0 : List Bind) (i4 : Int) (l : List Bind) : Option ((Int × List Bind) ⊕ (List Bind)) :=
  cond (decide (i4 < (a0.length : Int)))
    ((at? a0 i4).bind fun x18 =>
    (laws_toBind x18).bind fun t20 =>
    (ix l.length i4).bind fun j21 =>
    (l[j21]?).bind fun x =>
    some (.inl (w64 (i4 + 1), l.set j21 t20)))
    (some (.inr l))
noncomputable def laws_toBindS (a0 : List Bind) : Option (List Bind) :=
  (mkLen (a0.length : Int)).bind fun n =>
  (loop (fun z => laws_toBindS_l0 a0 z.1 z.2) (0, List.replicate n (([], 0, 0, [], []) : Bind))).bind fun d =>
  some d
noncomputable def F_laws_toBindS : Fn := ⟨[.val false (.one (.sl cBind)) false], [.val false (.one (.sl cBind)) true], fun a => laws_toBindS a⟩
def a_laws_toBindS : List (Nat × LoopAnn) := [(0, ⟨⟨[(4, false, [.dat (.int .i64)])], [(265216, .keep cBind true)]⟩,
    ⟨[], [(265216, .keep cBind true)]⟩, none⟩)]
theorem e_laws_toBindS : fnDen ⟨tis, fns_60⟩ a_laws_toBindS Try.f274 (codeOf Try.f274) [.val false (.one (.sl cBind)) false] [.val false (.one (.sl cBind)) true] = fun a => laws_toBindS a := by kernel_rfl
theorem m_laws_toBindS : Meets Try.prog 274 F_laws_toBindS := by
  have h := meets_of (ann := a_laws_toBindS) (ps := [.val false (.one (.sl cBind)) false]) (rs := [.val false (.one (.sl cBind)) true]) g_60 mixed Try.func274 (by kernel_rfl) (by kernel_rfl : Try.f274.body = some (codeOf Try.f274))
  rw [e_laws_toBindS] at h
  exact h
noncomputable def fns_274 : List (FuncId × Fn) := (274, F_laws_toBindS) :: fns_60
theorem g_274 : Good Try.prog ⟨tis, fns_274⟩ := g_60.cons m_laws_toBindS
noncomputable def laws_toPdu (a0 : Pdu) : Option Pdu :=
  (laws_toBindS a0.2.2.2.2).bind fun t18 =>
  some (a0.1, a0.2.1, a0.2.2.1, a0.2.2.2.1, t18)
noncomputable def F_laws_toPdu : Fn := ⟨[.val true cPdu false], [.val true cPdu true], fun a => laws_toPdu a⟩
def a_laws_toPdu : List (Nat × LoopAnn) := []
theorem e_laws_toPdu : fnDen ⟨tis, fns_274⟩ a_laws_toPdu Try.f255 (codeOf Try.f255) [.val true cPdu false] [.val true cPdu true] = fun a => laws_toPdu a := by kernel_rfl
theorem m_laws_toPdu : Meets Try.prog 255 F_laws_toPdu := by
  have h := meets_of (ann := a_laws_toPdu) (ps := [.val true cPdu false]) (rs := [.val true cPdu true]) g_274 mixed Try.func255 (by kernel_rfl) (by kernel_rfl : Try.f255.body = some (codeOf Try.f255))
  rw [e_laws_toPdu] at h
  exact h
noncomputable def fns_255 : List (FuncId × Fn) := (255, F_laws_toPdu) :: fns_274
theorem g_255 : Good Try.prog ⟨tis, fns_255⟩ := g_274.cons m_laws_toPdu
noncomputable def laws_toJob (a0 : Job) : Option Job :=
  (laws_toByteS a0.2.1).bind fun t9 =>
  (laws_toPdu (a0.2.2.2.1, a0.2.2.2.2.1, a0.2.2.2.2.2.1, a0.2.2.2.2.2.2.1, a0.2.2.2.2.2.2.2.1)).bind fun t16 =>
  (laws_toBridge (a0.2.2.2.2.2.2.2.2.1, a0.2.2.2.2.2.2.2.2.2.1, a0.2.2.2.2.2.2.2.2.2.2.1, a0.2.2.2.2.2.2.2.2.2.2.2.1, a0.2.2.2.2.2.2.2.2.2.2.2.2.1, a0.2.2.2.2.2.2.2.2.2.2.2.2.2.1, a0.2.2.2.2.2.2.2.2.2.2.2.2.2.2.1, a0.2.2.2.2.2.2.2.2.2.2.2.2.2.2.2.1, a0.2.2.2.2.2.2.2.2.2.2.2.2.2.2.2.2.1, a0.2.2.2.2.2.2.2.2.2.2.2.2.2.2.2.2.2.1, a0.2.2.2.2.2.2.2.2.2.2.2.2.2.2.2.2.2.2.1)).bind fun t20 =>
  some (a0.1, t9, a0.2.2.1, t16.1, t16.2.1, t16.2.2.1, t16.2.2.2.1, t16.2.2.2.2, t20.1, t20.2.1, t20.2.2.1, t20.2.2.2.1, t20.2.2.2.2.1, t20.2.2.2.2.2.1, t20.2.2.2.2.2.2.1, t20.2.2.2.2.2.2.2.1, t20.2.2.2.2.2.2.2.2.1, t20.2.2.2.2.2.2.2.2.2.1, t20.2.2.2.2.2.2.2.2.2.2, a0.2.2.2.2.2.2.2.2.2.2.2.2.2.2.2.2.2.2.2.1, a0.2.2.2.2.2.2.2.2.2.2.2.2.2.2.2.2.2.2.2.2)
noncomputable def F_laws_toJob : Fn := ⟨[.val true cJob false], [.val true cJob true], fun a => laws_toJob a⟩
def a_laws_toJob : List (Nat × LoopAnn) := []
theorem e_laws_toJob : fnDen ⟨tis, fns_255⟩ a_laws_toJob Try.f194 (codeOf Try.f194) [.val true cJob false] [.val true cJob true] = fun a => laws_toJob a := by kernel_rfl
theorem m_laws_toJob : Meets Try.prog 194 F_laws_toJob := by
  have h := meets_of (ann := a_laws_toJob) (ps := [.val true cJob false]) (rs := [.val true cJob true]) g_255 mixed Try.func194 (by kernel_rfl) (by kernel_rfl : Try.f194.body = some (codeOf Try.f194))
  rw [e_laws_toJob] at h
  exact h
noncomputable def fns_194 : List (FuncId × Fn) := (194, F_laws_toJob) :: fns_255
theorem g_194 : Good Try.prog ⟨tis, fns_194⟩ := g_255.cons m_laws_toJob
noncomputable def laws_toJobS_l0 (a0 : List Job) (i4 : Int) (l : List Job) : Option ((Int × List Job) ⊕ (List Job)) :=
  cond (decide (i4 < (a0.length : Int)))
    ((at? a0 i4).bind fun x18 =>
    (laws_toJob x18).bind fun t20 =>
    (ix l.length i4).bind fun j21 =>
    (l[j21]?).bind fun x =>
    some (.inl (w64 (i4 + 1), l.set j21 t20)))
    (some (.inr l))
noncomputable def laws_toJobS (a0 : List Job) : Option (List Job) :=
  (mkLen (a0.length : Int)).bind fun n =>
  (loop (fun z => laws_toJobS_l0 a0 z.1 z.2) (0, List.replicate n ((0, [], 0, 0, 0, 0, 0, [], 0, [], [], [], [], [], 0, 0, 0, 0, 0, 0, 0) : Job))).bind fun d =>
  some d
noncomputable def F_laws_toJobS : Fn := ⟨[.val false (.one (.sl cJob)) false], [.val false (.one (.sl cJob)) true], fun a => laws_toJobS a⟩
def a_laws_toJobS : List (Nat × LoopAnn) := [(0, ⟨⟨[(4, false, [.dat (.int .i64)])], [(265216, .keep cJob true)]⟩,
    ⟨[], [(265216, .keep cJob true)]⟩, none⟩)]
theorem e_laws_toJobS : fnDen ⟨tis, fns_194⟩ a_laws_toJobS Try.f117 (codeOf Try.f117) [.val false (.one (.sl cJob)) false] [.val false (.one (.sl cJob)) true] = fun a => laws_toJobS a := by kernel_rfl
theorem m_laws_toJobS : Meets Try.prog 117 F_laws_toJobS := by
  have h := meets_of (ann := a_laws_toJobS) (ps := [.val false (.one (.sl cJob)) false]) (rs := [.val false (.one (.sl cJob)) true]) g_194 mixed Try.func117 (by kernel_rfl) (by kernel_rfl : Try.f117.body = some (codeOf Try.f117))
  rw [e_laws_toJobS] at h
  exact h
noncomputable def fns_117 : List (FuncId × Fn) := (117, F_laws_toJobS) :: fns_194
theorem g_117 : Good Try.prog ⟨tis, fns_117⟩ := g_194.cons m_laws_toJobS
noncomputable def laws_toAgent (a0 : Agent) : Option Agent :=
  (laws_toBridge (a0.1, a0.2.1, a0.2.2.1, a0.2.2.2.1, a0.2.2.2.2.1, a0.2.2.2.2.2.1, a0.2.2.2.2.2.2.1, a0.2.2.2.2.2.2.2.1, a0.2.2.2.2.2.2.2.2.1, a0.2.2.2.2.2.2.2.2.2.1, a0.2.2.2.2.2.2.2.2.2.2.1)).bind fun t6 =>
  (laws_toJobS a0.2.2.2.2.2.2.2.2.2.2.2.2.1).bind fun t13 =>
  some (t6.1, t6.2.1, t6.2.2.1, t6.2.2.2.1, t6.2.2.2.2.1, t6.2.2.2.2.2.1, t6.2.2.2.2.2.2.1, t6.2.2.2.2.2.2.2.1, t6.2.2.2.2.2.2.2.2.1, t6.2.2.2.2.2.2.2.2.2.1, t6.2.2.2.2.2.2.2.2.2.2, a0.2.2.2.2.2.2.2.2.2.2.2.1, t13, a0.2.2.2.2.2.2.2.2.2.2.2.2.2.1, a0.2.2.2.2.2.2.2.2.2.2.2.2.2.2)
noncomputable def F_laws_toAgent : Fn := ⟨[.val true cAgent false], [.val true cAgent true], fun a => laws_toAgent a⟩
def a_laws_toAgent : List (Nat × LoopAnn) := []
theorem e_laws_toAgent : fnDen ⟨tis, fns_117⟩ a_laws_toAgent Try.f46 (codeOf Try.f46) [.val true cAgent false] [.val true cAgent true] = fun a => laws_toAgent a := by kernel_rfl
theorem m_laws_toAgent : Meets Try.prog 46 F_laws_toAgent := by
  have h := meets_of (ann := a_laws_toAgent) (ps := [.val true cAgent false]) (rs := [.val true cAgent true]) g_117 mixed Try.func46 (by kernel_rfl) (by kernel_rfl : Try.f46.body = some (codeOf Try.f46))
  rw [e_laws_toAgent] at h
  exact h
noncomputable def fns_46 : List (FuncId × Fn) := (46, F_laws_toAgent) :: fns_117
theorem g_46 : Good Try.prog ⟨tis, fns_46⟩ := g_117.cons m_laws_toAgent
noncomputable def impl_in (n0 : Int) (low1 : Int) (high2 : Int) : Option Bool :=
  (cond (decide (n0 ≥ low1)) (some (decide (n0 ≤ high2))) (some false)).bind fun t14 =>
  some t14
noncomputable def F_impl_in : Fn := ⟨[.val false (.one (.int .i64)) false, .val false (.one (.int .i64)) false, .val false (.one (.int .i64)) false], [.val false (.one .bool) true], fun a => impl_in a.1 a.2.1 a.2.2⟩
def a_impl_in : List (Nat × LoopAnn) := []
theorem e_impl_in : fnDen ⟨tis, fns_46⟩ a_impl_in Try.f112 (codeOf Try.f112) [.val false (.one (.int .i64)) false, .val false (.one (.int .i64)) false, .val false (.one (.int .i64)) false] [.val false (.one .bool) true] = fun a => impl_in a.1 a.2.1 a.2.2 := by kernel_rfl
theorem m_impl_in : Meets Try.prog 112 F_impl_in := by
  have h := meets_of (ann := a_impl_in) (ps := [.val false (.one (.int .i64)) false, .val false (.one (.int .i64)) false, .val false (.one (.int .i64)) false]) (rs := [.val false (.one .bool) true]) g_46 mixed Try.func112 (by kernel_rfl) (by kernel_rfl : Try.f112.body = some (codeOf Try.f112))
  rw [e_impl_in] at h
  exact h
noncomputable def fns_112 : List (FuncId × Fn) := (112, F_impl_in) :: fns_46
theorem g_112 : Good Try.prog ⟨tis, fns_112⟩ := g_46.cons m_impl_in
noncomputable def impl_isCount (n0 : Int) : Option Bool :=
  (impl_in n0 0 1000000).bind fun t4 =>
  some t4
noncomputable def F_impl_isCount : Fn := ⟨[.val false (.one (.int .i64)) false], [.val false (.one .bool) true], fun a => impl_isCount a⟩
def a_impl_isCount : List (Nat × LoopAnn) := []
theorem e_impl_isCount : fnDen ⟨tis, fns_112⟩ a_impl_isCount Try.f118 (codeOf Try.f118) [.val false (.one (.int .i64)) false] [.val false (.one .bool) true] = fun a => impl_isCount a := by kernel_rfl
theorem m_impl_isCount : Meets Try.prog 118 F_impl_isCount := by
  have h := meets_of (ann := a_impl_isCount) (ps := [.val false (.one (.int .i64)) false]) (rs := [.val false (.one .bool) true]) g_112 mixed Try.func118 (by kernel_rfl) (by kernel_rfl : Try.f118.body = some (codeOf Try.f118))
  rw [e_impl_isCount] at h
  exact h
noncomputable def fns_118 : List (FuncId × Fn) := (118, F_impl_isCount) :: fns_112
theorem g_118 : Good Try.prog ⟨tis, fns_118⟩ := g_112.cons m_impl_isCount
noncomputable def impl_VecOk (v0 : Vec) : Option Bool :=
  (impl_in v0.1 1 99).bind fun t5 =>
  (cond t5
    ((impl_in v0.2.1 0 100000).bind fun t9 =>
    some t9)
    (some false)).bind fun t10 =>
  (cond t10
    ((impl_in v0.2.2.1 0 10).bind fun t14 =>
    some t14)
    (some false)).bind fun t15 =>
  (cond t15
    ((impl_in v0.2.2.2.1 1 99).bind fun t19 =>
    some t19)
    (some false)).bind fun t20 =>
  (cond t20
    ((impl_in v0.2.2.2.2 0 7).bind fun t24 =>
    some t24)
    (some false)).bind fun t25 =>
  some t25
noncomputable def F_impl_VecOk : Fn := ⟨[.val true cVec false], [.val false (.one .bool) true], fun a => impl_VecOk a⟩
def a_impl_VecOk : List (Nat × LoopAnn) := []
theorem e_impl_VecOk : fnDen ⟨tis, fns_118⟩ a_impl_VecOk Try.f224 (codeOf Try.f224) [.val true cVec false] [.val false (.one .bool) true] = fun a => impl_VecOk a := by kernel_rfl
theorem m_impl_VecOk : Meets Try.prog 224 F_impl_VecOk := by
  have h := meets_of (ann := a_impl_VecOk) (ps := [.val true cVec false]) (rs := [.val false (.one .bool) true]) g_118 mixed Try.func224 (by kernel_rfl) (by kernel_rfl : Try.f224.body = some (codeOf Try.f224))
  rw [e_impl_VecOk] at h
  exact h
noncomputable def fns_224 : List (FuncId × Fn) := (224, F_impl_VecOk) :: fns_118
theorem g_224 : Good Try.prog ⟨tis, fns_224⟩ := g_118.cons m_impl_VecOk
noncomputable def impl_PtOk (p0 : Pt) : Option Bool :=
  (impl_in p0.2.1 1 1000).bind fun t5 =>
  (cond (!t5)
    (some true)
    ((cond p0.2.2.1 (some (!p0.1)) (some false)).bind fun t14 =>
    some t14)).bind fun t15 =>
  cond t15
    (some false)
    (cond p0.2.2.1
      ((impl_VecOk p0.2.2.2).bind fun t20 =>
      some t20)
      (let t2 := p0.2.2.2.1 == 0 && (p0.2.2.2.2.1 == 0 && (p0.2.2.2.2.2.1 == 0 && (p0.2.2.2.2.2.2.1 == 0 && (p0.2.2.2.2.2.2.2 == 0))))
      some t2))
noncomputable def F_impl_PtOk : Fn := ⟨[.val true cPt false], [.val false (.one .bool) true], fun a => impl_PtOk a⟩
def a_impl_PtOk : List (Nat × LoopAnn) := []
theorem e_impl_PtOk : fnDen ⟨tis, fns_224⟩ a_impl_PtOk Try.f161 (codeOf Try.f161) [.val true cPt false] [.val false (.one .bool) true] = fun a => impl_PtOk a := by kernel_rfl
theorem m_impl_PtOk : Meets Try.prog 161 F_impl_PtOk := by
  have h := meets_of (ann := a_impl_PtOk) (ps := [.val true cPt false]) (rs := [.val false (.one .bool) true]) g_224 mixed Try.func161 (by kernel_rfl) (by kernel_rfl : Try.f161.body = some (codeOf Try.f161))
  rw [e_impl_PtOk] at h
  exact h
noncomputable def fns_161 : List (FuncId × Fn) := (161, F_impl_PtOk) :: fns_224
theorem g_161 : Good Try.prog ⟨tis, fns_161⟩ := g_224.cons m_impl_PtOk
noncomputable def impl_fentOk (e0 : Fent) : Option Bool :=
  (impl_in e0.1 1 99).bind fun t5 =>
  (cond t5
    ((impl_in e0.2.1 1 9999).bind fun t9 =>
    some t9)
    (some false)).bind fun t10 =>
  (cond t10
    ((impl_in e0.2.2.1 0 7).bind fun t14 =>
    some t14)
    (some false)).bind fun t15 =>
  (cond t15
    ((impl_in e0.2.2.2.1 0 4).bind fun t19 =>
    some t19)
    (some false)).bind fun t20 =>
  (cond t20
    ((cond (!e0.2.2.2.2) (some true) (some (e0.2.2.2.1 == 0))).bind fun t29 =>
    some t29)
    (some false)).bind fun t30 =>
  some t30
noncomputable def F_impl_fentOk : Fn := ⟨[.val true cFent false], [.val false (.one .bool) true], fun a => impl_fentOk a⟩
def a_impl_fentOk : List (Nat × LoopAnn) := []
theorem e_impl_fentOk : fnDen ⟨tis, fns_161⟩ a_impl_fentOk Try.f225 (codeOf Try.f225) [.val true cFent false] [.val false (.one .bool) true] = fun a => impl_fentOk a := by kernel_rfl
theorem m_impl_fentOk : Meets Try.prog 225 F_impl_fentOk := by
  have h := meets_of (ann := a_impl_fentOk) (ps := [.val true cFent false]) (rs := [.val false (.one .bool) true]) g_161 mixed Try.func225 (by kernel_rfl) (by kernel_rfl : Try.f225.body = some (codeOf Try.f225))
  rw [e_impl_fentOk] at h
  exact h
noncomputable def fns_225 : List (FuncId × Fn) := (225, F_impl_fentOk) :: fns_161
theorem g_225 : Good Try.prog ⟨tis, fns_225⟩ := g_161.cons m_impl_fentOk
noncomputable def impl_behind (e0 : Fent) (tag1 : Int) (mac2 : Int) : Option Bool :=
  (cond (decide (e0.1 > tag1))
    (some true)
    ((cond (e0.1 == tag1) (some (decide (e0.2.1 > mac2))) (some false)).bind fun t21 =>
    some t21)).bind fun t22 =>
  some t22
noncomputable def F_impl_behind : Fn := ⟨[.val true cFent false, .val false (.one (.int .i64)) false, .val false (.one (.int .i64)) false], [.val false (.one .bool) true], fun a => impl_behind a.1 a.2.1 a.2.2⟩
def a_impl_behind : List (Nat × LoopAnn) := []
theorem e_impl_behind : fnDen ⟨tis, fns_225⟩ a_impl_behind Try.f226 (codeOf Try.f226) [.val true cFent false, .val false (.one (.int .i64)) false, .val false (.one (.int .i64)) false] [.val false (.one .bool) true] = fun a => impl_behind a.1 a.2.1 a.2.2 := by kernel_rfl
theorem m_impl_behind : Meets Try.prog 226 F_impl_behind := by
  have h := meets_of (ann := a_impl_behind) (ps := [.val true cFent false, .val false (.one (.int .i64)) false, .val false (.one (.int .i64)) false]) (rs := [.val false (.one .bool) true]) g_225 mixed Try.func226 (by kernel_rfl) (by kernel_rfl : Try.f226.body = some (codeOf Try.f226))
  rw [e_impl_behind] at h
  exact h
noncomputable def fns_226 : List (FuncId × Fn) := (226, F_impl_behind) :: fns_225
theorem g_226 : Good Try.prog ⟨tis, fns_226⟩ := g_225.cons m_impl_behind
noncomputable def impl_FdbOk_l0 (l0 : List Fent) (t7 : Int) : Option (Int ⊕ (Unit ⊕ Bool)) :=
  cond (decide (t7 < (l0.length : Int)))
    ((at? l0 t7).bind fun x10 =>
    (impl_fentOk x10).bind fun t13 =>
    (cond (!t13)
      (some true)
      ((cond (decide (t7 > 0))
        ((at? l0 (w64 (t7 - 1))).bind fun x23 =>
        (at? l0 (w64 (t7 - 1))).bind fun x29 =>
        (impl_behind x10 x23.1 x29.2.1).bind fun t32 =>
        some (!t32))
        (some false)).bind fun t34 =>
      some t34)).bind fun t35 =>
    cond t35 (some (.inr (.inr false))) (some (.inl (w64 (t7 + 1)))))
    (some (.inr (.inl ())))
noncomputable def impl_FdbOk (l0 : List Fent) : Option Bool :=
  (loop (fun z => impl_FdbOk_l0 l0 z) 0).bind (Sum.elim (fun d =>
    let t2 := decide ((l0.length : Int) ≤ 12)
    some t2) (fun r => some r))
noncomputable def F_impl_FdbOk : Fn := ⟨[.val false (.one (.sl cFent)) false], [.val false (.one .bool) true], fun a => impl_FdbOk a⟩
def a_impl_FdbOk : List (Nat × LoopAnn) := [(0, ⟨⟨[(7, false, [.dat (.int .i64)]), (16, false, [.undef]), (17, false, [.undef]), (18, false, [.undef]), (19, false, [.undef]), (20, false, [.undef]), (21, false, [.undef]), (22, false, [.undef]), (23, false, [.undef]), (24, false, [.undef]), (25, false, [.undef]), (26, false, [.undef]), (27, false, [.undef]), (28, false, [.undef]), (29, false, [.undef]), (30, false, [.undef]), (31, false, [.undef]), (32, false, [.undef]), (33, false, [.undef]), (34, false, [.undef])], []⟩,
    ⟨[], []⟩, some ⟨[(2, false, [.dat .bool])], []⟩⟩)]
theorem e_impl_FdbOk : fnDen ⟨tis, fns_226⟩ a_impl_FdbOk Try.f162 (codeOf Try.f162) [.val false (.one (.sl cFent)) false] [.val false (.one .bool) true] = fun a => impl_FdbOk a := by kernel_rfl
theorem m_impl_FdbOk : Meets Try.prog 162 F_impl_FdbOk := by
  have h := meets_of (ann := a_impl_FdbOk) (ps := [.val false (.one (.sl cFent)) false]) (rs := [.val false (.one .bool) true]) g_226 mixed Try.func162 (by kernel_rfl) (by kernel_rfl : Try.f162.body = some (codeOf Try.f162))
  rw [e_impl_FdbOk] at h
  exact h
noncomputable def fns_162 : List (FuncId × Fn) := (162, F_impl_FdbOk) :: fns_226
theorem g_162 : Good Try.prog ⟨tis, fns_162⟩ := g_226.cons m_impl_FdbOk
noncomputable def impl_allPorts (ports0 : Int) : Option Int :=
  (shl .i64 1 ports0).bind fun t4 =>
  some (w64 (t4 - 1))
noncomputable def F_impl_allPorts : Fn := ⟨[.val false (.one (.int .i64)) false], [.val false (.one (.int .i64)) true], fun a => impl_allPorts a⟩
def a_impl_allPorts : List (Nat × LoopAnn) := []
theorem e_impl_allPorts : fnDen ⟨tis, fns_162⟩ a_impl_allPorts Try.f227 (codeOf Try.f227) [.val false (.one (.int .i64)) false] [.val false (.one (.int .i64)) true] = fun a => impl_allPorts a := by kernel_rfl
theorem m_impl_allPorts : Meets Try.prog 227 F_impl_allPorts := by
  have h := meets_of (ann := a_impl_allPorts) (ps := [.val false (.one (.int .i64)) false]) (rs := [.val false (.one (.int .i64)) true]) g_162 mixed Try.func227 (by kernel_rfl) (by kernel_rfl : Try.f227.body = some (codeOf Try.f227))
  rw [e_impl_allPorts] at h
  exact h
noncomputable def fns_227 : List (FuncId × Fn) := (227, F_impl_allPorts) :: fns_162
theorem g_227 : Good Try.prog ⟨tis, fns_227⟩ := g_162.cons m_impl_allPorts
noncomputable def impl_RowAt_l0 (v0 : Vtab) (id1 : Int) (t10 : Int) : Option (Int ⊕ (Unit ⊕ Int)) :=
  cond (decide (t10 < (v0.1.length : Int)))
    ((at? v0.1 t10).bind fun x13 =>
    cond (x13.1 == id1) (some (.inr (.inr t10))) (some (.inl (w64 (t10 + 1)))))
    (some (.inr (.inl ())))
noncomputable def impl_RowAt (v0 : Vtab) (id1 : Int) : Option Int :=
  (loop (fun z => impl_RowAt_l0 v0 id1 z) 0).bind (Sum.elim (fun d =>
    some (-1)) (fun r => some r))
noncomputable def F_impl_RowAt : Fn := ⟨[.val true cVtab false, .val false (.one (.int .i64)) false], [.val false (.one (.int .i64)) true], fun a => impl_RowAt a.1 a.2⟩
def a_impl_RowAt : List (Nat × LoopAnn) := [(0, ⟨⟨[(10, false, [.dat (.int .i64)])], []⟩,
    ⟨[], []⟩, some ⟨[(4, false, [.dat (.int .i64)])], []⟩⟩)]
theorem e_impl_RowAt : fnDen ⟨tis, fns_227⟩ a_impl_RowAt Try.f228 (codeOf Try.f228) [.val true cVtab false, .val false (.one (.int .i64)) false] [.val false (.one (.int .i64)) true] = fun a => impl_RowAt a.1 a.2 := by kernel_rfl
theorem m_impl_RowAt : Meets Try.prog 228 F_impl_RowAt := by
  have h := meets_of (ann := a_impl_RowAt) (ps := [.val true cVtab false, .val false (.one (.int .i64)) false]) (rs := [.val false (.one (.int .i64)) true]) g_227 mixed Try.func228 (by kernel_rfl) (by kernel_rfl : Try.f228.body = some (codeOf Try.f228))
  rw [e_impl_RowAt] at h
  exact h
noncomputable def fns_228 : List (FuncId × Fn) := (228, F_impl_RowAt) :: fns_227
theorem g_228 : Good Try.prog ⟨tis, fns_228⟩ := g_227.cons m_impl_RowAt
noncomputable def impl_VtabOk_l0 (p0 : Vtab) (i1 : Int) (t28 : Int) : Option (Int ⊕ (Unit ⊕ Bool)) :=
  cond (decide (t28 < (p0.1.length : Int)))
    ((at? p0.1 t28).bind fun x31 =>
    (impl_in x31.1 1 99).bind fun t35 =>
    (cond (!t35)
      (some true)
      ((cond (decide (t28 > 0))
        ((at? p0.1 (w64 (t28 - 1))).bind fun x45 =>
        some (decide (x45.1 ≥ x31.1)))
        (some false)).bind fun t51 =>
      some t51)).bind fun t52 =>
    (cond t52
      (some true)
      ((impl_allPorts i1).bind fun t57 =>
      (impl_in x31.2.1 0 t57).bind fun t58 =>
      some (!t58))).bind fun t60 =>
    (cond t60 (some true) (some ((bclr .i64 x31.2.2 x31.2.1) != 0))).bind fun t68 =>
    cond t68 (some (.inr (.inr false))) (some (.inl (w64 (t28 + 1)))))
    (some (.inr (.inl ())))
noncomputable def impl_VtabOk_l2 (p0 : Vtab) (t73 : Int) : Option (Int ⊕ (Unit ⊕ Bool)) :=
  cond (decide (t73 < (p0.2.length : Int)))
    ((at? p0.2 t73).bind fun x75 =>
    (impl_RowAt p0 x75).bind fun t79 =>
    cond (decide (t79 < 0)) (some (.inr (.inr false))) (some (.inl (w64 (t73 + 1)))))
    (some (.inr (.inl ())))
noncomputable def impl_VtabOk (p0 : Vtab) (i1 : Int) : Option Bool :=
  (impl_in i1 1 6).bind fun t10 =>
  (cond (!t10) (some true) (some ((p0.2.length : Int) != i1))).bind fun t18 =>
  (cond t18 (some true) (some (decide ((p0.1.length : Int) > 6)))).bind fun t24 =>
  cond t24
    (some false)
    ((loop (fun z => impl_VtabOk_l0 p0 i1 z) 0).bind (Sum.elim (fun d =>
      (loop (fun z => impl_VtabOk_l2 p0 z) 0).bind (Sum.elim (fun d_1 =>
        some true) (fun r => some r))) (fun r_1 => some r_1)))
noncomputable def F_impl_VtabOk : Fn := ⟨[.val true cVtab false, .val false (.one (.int .i64)) false], [.val false (.one .bool) true], fun a => impl_VtabOk a.1 a.2⟩
def a_impl_VtabOk : List (Nat × LoopAnn) := [(0, ⟨⟨[(28, false, [.dat (.int .i64)]), (38, false, [.undef]), (39, false, [.undef]), (40, false, [.undef]), (41, false, [.undef]), (42, false, [.undef]), (43, false, [.undef]), (44, false, [.undef]), (45, false, [.undef]), (46, false, [.undef]), (47, false, [.undef]), (48, false, [.undef]), (49, false, [.undef]), (50, false, [.undef]), (51, false, [.undef]), (54, false, [.undef]), (55, false, [.undef]), (56, false, [.undef]), (57, false, [.undef]), (58, false, [.undef]), (59, false, [.undef]), (62, false, [.undef]), (63, false, [.undef]), (64, false, [.undef]), (65, false, [.undef]), (66, false, [.undef]), (67, false, [.undef])], []⟩,
    ⟨[], []⟩, some ⟨[(4, false, [.dat .bool])], []⟩⟩),
  (2, ⟨⟨[(73, false, [.dat (.int .i64)])], []⟩,
    ⟨[], []⟩, some ⟨[(4, false, [.dat .bool])], []⟩⟩)]
theorem e_impl_VtabOk : fnDen ⟨tis, fns_228⟩ a_impl_VtabOk Try.f163 (codeOf Try.f163) [.val true cVtab false, .val false (.one (.int .i64)) false] [.val false (.one .bool) true] = fun a => impl_VtabOk a.1 a.2 := by kernel_rfl
theorem m_impl_VtabOk : Meets Try.prog 163 F_impl_VtabOk := by
  have h := meets_of (ann := a_impl_VtabOk) (ps := [.val true cVtab false, .val false (.one (.int .i64)) false]) (rs := [.val false (.one .bool) true]) g_228 mixed Try.func163 (by kernel_rfl) (by kernel_rfl : Try.f163.body = some (codeOf Try.f163))
  rw [e_impl_VtabOk] at h
  exact h
noncomputable def fns_163 : List (FuncId × Fn) := (163, F_impl_VtabOk) :: fns_228
theorem g_163 : Good Try.prog ⟨tis, fns_163⟩ := g_228.cons m_impl_VtabOk
noncomputable def impl_BridgeOk_l0 (p0 : Bridge) (t8 : Int) : Option (Int ⊕ (Unit ⊕ Bool)) :=
  cond (decide (t8 < (p0.2.2.1.length : Int)))
    ((at? p0.2.2.1 t8).bind fun x10 =>
    (impl_PtOk x10).bind fun t13 =>
    cond (!t13) (some (.inr (.inr false))) (some (.inl (w64 (t8 + 1)))))
    (some (.inr (.inl ())))
noncomputable def impl_BridgeOk (p0 : Bridge) : Option Bool :=
  (loop (fun z => impl_BridgeOk_l0 p0 z) 0).bind (Sum.elim (fun d =>
    (impl_in p0.1 1 99).bind fun t18 =>
    (cond (!t18) (some true) (some (decide ((p0.2.1.length : Int) > 10)))).bind fun t25 =>
    (cond t25
      (some true)
      ((impl_in (p0.2.2.1.length : Int) 1 6).bind fun t30 =>
      some (!t30))).bind fun t32 =>
    (cond t32
      (some true)
      ((impl_FdbOk p0.2.2.2.1).bind fun t36 =>
      some (!t36))).bind fun t38 =>
    (cond t38
      (some true)
      ((impl_VtabOk (p0.2.2.2.2.1, p0.2.2.2.2.2.1) (p0.2.2.1.length : Int)).bind fun t45 =>
      some (!t45))).bind fun t47 =>
    cond t47
      (some false)
      ((impl_isCount p0.2.2.2.2.2.2.1).bind fun t50 =>
      (cond t50
        ((impl_isCount p0.2.2.2.2.2.2.2.1).bind fun t54 =>
        some t54)
        (some false)).bind fun t55 =>
      (cond t55
        ((impl_isCount p0.2.2.2.2.2.2.2.2.1).bind fun t59 =>
        some t59)
        (some false)).bind fun t60 =>
      (cond t60
        ((impl_isCount p0.2.2.2.2.2.2.2.2.2.1).bind fun t64 =>
        some t64)
        (some false)).bind fun t65 =>
      (cond t65
        ((impl_isCount p0.2.2.2.2.2.2.2.2.2.2).bind fun t69 =>
        some t69)
        (some false)).bind fun t70 =>
      some t70)) (fun r => some r))
noncomputable def F_impl_BridgeOk : Fn := ⟨[.val true cBridge false], [.val false (.one .bool) true], fun a => impl_BridgeOk a⟩
def a_impl_BridgeOk : List (Nat × LoopAnn) := [(0, ⟨⟨[(8, false, [.dat (.int .i64)])], []⟩,
    ⟨[], []⟩, some ⟨[(2, false, [.dat .bool])], []⟩⟩)]
theorem e_impl_BridgeOk : fnDen ⟨tis, fns_163⟩ a_impl_BridgeOk Try.f81 (codeOf Try.f81) [.val true cBridge false] [.val false (.one .bool) true] = fun a => impl_BridgeOk a := by kernel_rfl
theorem m_impl_BridgeOk : Meets Try.prog 81 F_impl_BridgeOk := by
  have h := meets_of (ann := a_impl_BridgeOk) (ps := [.val true cBridge false]) (rs := [.val false (.one .bool) true]) g_163 mixed Try.func81 (by kernel_rfl) (by kernel_rfl : Try.f81.body = some (codeOf Try.f81))
  rw [e_impl_BridgeOk] at h
  exact h
noncomputable def fns_81 : List (FuncId × Fn) := (81, F_impl_BridgeOk) :: fns_163
theorem g_81 : Good Try.prog ⟨tis, fns_81⟩ := g_163.cons m_impl_BridgeOk
noncomputable def impl_OidOk_l0 (o0 : List Int) (t7 : Int) : Option (Int ⊕ (Unit ⊕ Bool)) :=
  cond (decide (t7 < (o0.length : Int)))
    ((at? o0 t7).bind fun x9 =>
    (impl_in x9 0 100000).bind fun t12 =>
    cond (!t12) (some (.inr (.inr false))) (some (.inl (w64 (t7 + 1)))))
    (some (.inr (.inl ())))
noncomputable def impl_OidOk (o0 : List Int) : Option Bool :=
  (loop (fun z => impl_OidOk_l0 o0 z) 0).bind (Sum.elim (fun d =>
    (impl_in (o0.length : Int) 1 10).bind fun t17 =>
    some t17) (fun r => some r))
noncomputable def F_impl_OidOk : Fn := ⟨[.val false (.one (.sl (.one (.int .i64)))) false], [.val false (.one .bool) true], fun a => impl_OidOk a⟩
def a_impl_OidOk : List (Nat × LoopAnn) := [(0, ⟨⟨[(7, false, [.dat (.int .i64)])], []⟩,
    ⟨[], []⟩, some ⟨[(2, false, [.dat .bool])], []⟩⟩)]
theorem e_impl_OidOk : fnDen ⟨tis, fns_81⟩ a_impl_OidOk Try.f256 (codeOf Try.f256) [.val false (.one (.sl (.one (.int .i64)))) false] [.val false (.one .bool) true] = fun a => impl_OidOk a := by kernel_rfl
theorem m_impl_OidOk : Meets Try.prog 256 F_impl_OidOk := by
  have h := meets_of (ann := a_impl_OidOk) (ps := [.val false (.one (.sl (.one (.int .i64)))) false]) (rs := [.val false (.one .bool) true]) g_81 mixed Try.func256 (by kernel_rfl) (by kernel_rfl : Try.f256.body = some (codeOf Try.f256))
  rw [e_impl_OidOk] at h
  exact h
noncomputable def fns_256 : List (FuncId × Fn) := (256, F_impl_OidOk) :: fns_81
theorem g_256 : Good Try.prog ⟨tis, fns_256⟩ := g_81.cons m_impl_OidOk
noncomputable def impl_SameOid_l0 (a0 : List Int) (b1 : List Int) (t13 : Int) : Option (Int ⊕ (Unit ⊕ Bool)) :=
  cond (decide (t13 < (a0.length : Int)))
    ((at? a0 t13).bind fun x18 =>
    (at? b1 t13).bind fun x22 =>
    cond (x18 != x22) (some (.inr (.inr false))) (some (.inl (w64 (t13 + 1)))))
    (some (.inr (.inl ())))
noncomputable def impl_SameOid (a0 : List Int) (b1 : List Int) : Option Bool :=
  cond ((a0.length : Int) != (b1.length : Int))
    (some false)
    ((loop (fun z => impl_SameOid_l0 a0 b1 z) 0).bind (Sum.elim (fun d =>
      some true) (fun r => some r)))
noncomputable def F_impl_SameOid : Fn := ⟨[.val false (.one (.sl (.one (.int .i64)))) false, .val false (.one (.sl (.one (.int .i64)))) false], [.val false (.one .bool) true], fun a => impl_SameOid a.1 a.2⟩
def a_impl_SameOid : List (Nat × LoopAnn) := [(0, ⟨⟨[(13, false, [.dat (.int .i64)])], []⟩,
    ⟨[], []⟩, some ⟨[(4, false, [.dat .bool])], []⟩⟩)]
theorem e_impl_SameOid : fnDen ⟨tis, fns_256⟩ a_impl_SameOid Try.f38 (codeOf Try.f38) [.val false (.one (.sl (.one (.int .i64)))) false, .val false (.one (.sl (.one (.int .i64)))) false] [.val false (.one .bool) true] = fun a => impl_SameOid a.1 a.2 := by kernel_rfl
theorem m_impl_SameOid : Meets Try.prog 38 F_impl_SameOid := by
  have h := meets_of (ann := a_impl_SameOid) (ps := [.val false (.one (.sl (.one (.int .i64)))) false, .val false (.one (.sl (.one (.int .i64)))) false]) (rs := [.val false (.one .bool) true]) g_256 mixed Try.func38 (by kernel_rfl) (by kernel_rfl : Try.f38.body = some (codeOf Try.f38))
  rw [e_impl_SameOid] at h
  exact h
noncomputable def fns_38 : List (FuncId × Fn) := (38, F_impl_SameOid) :: fns_256
theorem g_38 : Good Try.prog ⟨tis, fns_38⟩ := g_256.cons m_impl_SameOid
noncomputable def impl_SameVal (a0 : Val) (b1 : Val) : Option Bool :=
  (cond (a0.1 == b1.1) (some (a0.2.1 == b1.2.1)) (some false)).bind fun t16 =>
  (cond t16 (some (a0.2.2.1 == b1.2.2.1)) (some false)).bind fun t23 =>
  (cond t23
    ((impl_SameOid a0.2.2.2 b1.2.2.2).bind fun t29 =>
    some t29)
    (some false)).bind fun t30 =>
  some t30
noncomputable def F_impl_SameVal : Fn := ⟨[.val true cVal false, .val true cVal false], [.val false (.one .bool) true], fun a => impl_SameVal a.1 a.2⟩
def a_impl_SameVal : List (Nat × LoopAnn) := []
theorem e_impl_SameVal : fnDen ⟨tis, fns_38⟩ a_impl_SameVal Try.f36 (codeOf Try.f36) [.val true cVal false, .val true cVal false] [.val false (.one .bool) true] = fun a => impl_SameVal a.1 a.2 := by kernel_rfl
theorem m_impl_SameVal : Meets Try.prog 36 F_impl_SameVal := by
  have h := meets_of (ann := a_impl_SameVal) (ps := [.val true cVal false, .val true cVal false]) (rs := [.val false (.one .bool) true]) g_38 mixed Try.func36 (by kernel_rfl) (by kernel_rfl : Try.f36.body = some (codeOf Try.f36))
  rw [e_impl_SameVal] at h
  exact h
noncomputable def fns_36 : List (FuncId × Fn) := (36, F_impl_SameVal) :: fns_38
theorem g_36 : Good Try.prog ⟨tis, fns_36⟩ := g_38.cons m_impl_SameVal
noncomputable def impl_isInt (n0 : Int) : Option Bool :=
  (impl_in n0 (-2147483648) 2147483647).bind fun t4 =>
  some t4
noncomputable def F_impl_isInt : Fn := ⟨[.val false (.one (.int .i64)) false], [.val false (.one .bool) true], fun a => impl_isInt a⟩
def a_impl_isInt : List (Nat × LoopAnn) := []
theorem e_impl_isInt : fnDen ⟨tis, fns_36⟩ a_impl_isInt Try.f258 (codeOf Try.f258) [.val false (.one (.int .i64)) false] [.val false (.one .bool) true] = fun a => impl_isInt a := by kernel_rfl
theorem m_impl_isInt : Meets Try.prog 258 F_impl_isInt := by
  have h := meets_of (ann := a_impl_isInt) (ps := [.val false (.one (.int .i64)) false]) (rs := [.val false (.one .bool) true]) g_36 mixed Try.func258 (by kernel_rfl) (by kernel_rfl : Try.f258.body = some (codeOf Try.f258))
  rw [e_impl_isInt] at h
  exact h
noncomputable def fns_258 : List (FuncId × Fn) := (258, F_impl_isInt) :: fns_36
theorem g_258 : Good Try.prog ⟨tis, fns_258⟩ := g_36.cons m_impl_isInt
noncomputable def impl_ValOk (v0 : Val) : Option Bool :=
  cond (v0.1 == 2)
    ((impl_isInt v0.2.1).bind fun t17 =>
    (cond t17
      ((impl_SameVal v0 (v0.1, v0.2.1, [], [])).bind fun t43 =>
      some t43)
      (some false)).bind fun t44 =>
    some t44)
    (cond (v0.1 == 4)
      (let ok4 := decide ((v0.2.2.1.length : Int) ≤ 20)
      (cond ok4
        ((impl_SameVal v0 (v0.1, 0, v0.2.2.1, [])).bind fun t43_1 =>
        some t43_1)
        (some false)).bind fun t44_1 =>
      some t44_1)
      (cond (v0.1 == 6)
        ((impl_OidOk v0.2.2.2).bind fun t34 =>
        (cond t34
          ((impl_SameVal v0 (v0.1, 0, [], v0.2.2.2)).bind fun t43_2 =>
          some t43_2)
          (some false)).bind fun t44_2 =>
        some t44_2)
        (cond (v0.1 == 5)
          (cond (v0.1 == 5)
            (((impl_SameVal v0 (v0.1, 0, [], [])).bind fun t43_3 =>
            some t43_3).bind fun t44_3 =>
            some t44_3)
            (some false))
          (cond (v0.1 == 128)
            (cond (v0.1 == 128)
              (((impl_SameVal v0 (v0.1, 0, [], [])).bind fun t43_4 =>
              some t43_4).bind fun t44_4 =>
              some t44_4)
              (some false))
            (cond (v0.1 == 130)
              (((impl_SameVal v0 (v0.1, 0, [], [])).bind fun t43_5 =>
              some t43_5).bind fun t44_5 =>
              some t44_5)
              (some false))))))
noncomputable def F_impl_ValOk : Fn := ⟨[.val true cVal false], [.val false (.one .bool) true], fun a => impl_ValOk a⟩
def a_impl_ValOk : List (Nat × LoopAnn) := []
theorem e_impl_ValOk : fnDen ⟨tis, fns_258⟩ a_impl_ValOk Try.f257 (codeOf Try.f257) [.val true cVal false] [.val false (.one .bool) true] = fun a => impl_ValOk a := by kernel_rfl
theorem m_impl_ValOk : Meets Try.prog 257 F_impl_ValOk := by
  have h := meets_of (ann := a_impl_ValOk) (ps := [.val true cVal false]) (rs := [.val false (.one .bool) true]) g_258 mixed Try.func257 (by kernel_rfl) (by kernel_rfl : Try.f257.body = some (codeOf Try.f257))
  rw [e_impl_ValOk] at h
  exact h
noncomputable def fns_257 : List (FuncId × Fn) := (257, F_impl_ValOk) :: fns_258
theorem g_257 : Good Try.prog ⟨tis, fns_257⟩ := g_258.cons m_impl_ValOk
noncomputable def impl_PduOk_l1 (p0 : Pdu) (t35 : Int) : Option (Int ⊕ (Unit ⊕ Bool)) :=
  cond (decide (t35 < (p0.2.2.2.2.length : Int)))
    ((at? p0.2.2.2.2 t35).bind fun x38 =>
    (cond (decide (t35 ≥ 10))
      (some true)
      ((impl_OidOk x38.1).bind fun t45 =>
      some (!t45))).bind fun t47 =>
    (cond t47
      (some true)
      ((impl_ValOk x38.2).bind fun t51 =>
      some (!t51))).bind fun t53 =>
    cond t53 (some (.inr (.inr false))) (some (.inl (w64 (t35 + 1)))))
    (some (.inr (.inl ())))
noncomputable def impl_PduOk_l1_1 (p0 : Pdu) (t35_1 : Int) : Option (Int ⊕ (Unit ⊕ Bool)) :=
  cond (decide (t35_1 < (p0.2.2.2.2.length : Int)))
    ((at? p0.2.2.2.2 t35_1).bind fun x38_1 =>
    (cond (decide (t35_1 ≥ 10))
      (some true)
      ((impl_OidOk x38_1.1).bind fun t45_1 =>
      some (!t45_1))).bind fun t47_1 =>
    (cond t47_1
      (some true)
      ((impl_ValOk x38_1.2).bind fun t51_1 =>
      some (!t51_1))).bind fun t53_1 =>
    cond t53_1 (some (.inr (.inr false))) (some (.inl (w64 (t35_1 + 1)))))
    (some (.inr (.inl ())))
noncomputable def impl_PduOk_l1_2 (p0 : Pdu) (t35_2 : Int) : Option (Int ⊕ (Unit ⊕ Bool)) :=
  cond (decide (t35_2 < (p0.2.2.2.2.length : Int)))
    ((at? p0.2.2.2.2 t35_2).bind fun x38_2 =>
    (cond (decide (t35_2 ≥ 10))
      (some true)
      ((impl_OidOk x38_2.1).bind fun t45_2 =>
      some (!t45_2))).bind fun t47_2 =>
    (cond t47_2
      (some true)
      ((impl_ValOk x38_2.2).bind fun t51_2 =>
      some (!t51_2))).bind fun t53_2 =>
    cond t53_2 (some (.inr (.inr false))) (some (.inl (w64 (t35_2 + 1)))))
    (some (.inr (.inl ())))
noncomputable def impl_PduOk_l1_3 (p0 : Pdu) (t35_3 : Int) : Option (Int ⊕ (Unit ⊕ Bool)) :=
  cond (decide (t35_3 < (p0.2.2.2.2.length : Int)))
    ((at? p0.2.2.2.2 t35_3).bind fun x38_3 =>
    (cond (decide (t35_3 ≥ 10))
      (some true)
      ((impl_OidOk x38_3.1).bind fun t45_3 =>
      some (!t45_3))).bind fun t47_3 =>
    (cond t47_3
      (some true)
      ((impl_ValOk x38_3.2).bind fun t51_3 =>
      some (!t51_3))).bind fun t53_3 =>
    cond t53_3 (some (.inr (.inr false))) (some (.inl (w64 (t35_3 + 1)))))
    (some (.inr (.inl ())))
noncomputable def impl_PduOk_l1_4 (p0 : Pdu) (t35_4 : Int) : Option (Int ⊕ (Unit ⊕ Bool)) :=
  cond (decide (t35_4 < (p0.2.2.2.2.length : Int)))
    ((at? p0.2.2.2.2 t35_4).bind fun x38_4 =>
    (cond (decide (t35_4 ≥ 10))
      (some true)
      ((impl_OidOk x38_4.1).bind fun t45_4 =>
      some (!t45_4))).bind fun t47_4 =>
    (cond t47_4
      (some true)
      ((impl_ValOk x38_4.2).bind fun t51_4 =>
      some (!t51_4))).bind fun t53_4 =>
    cond t53_4 (some (.inr (.inr false))) (some (.inl (w64 (t35_4 + 1)))))
    (some (.inr (.inl ())))
noncomputable def impl_PduOk_l1_5 (p0 : Pdu) (t35_5 : Int) : Option (Int ⊕ (Unit ⊕ Bool)) :=
  cond (decide (t35_5 < (p0.2.2.2.2.length : Int)))
    ((at? p0.2.2.2.2 t35_5).bind fun x38_5 =>
    (cond (decide (t35_5 ≥ 10))
      (some true)
      ((impl_OidOk x38_5.1).bind fun t45_5 =>
      some (!t45_5))).bind fun t47_5 =>
    (cond t47_5
      (some true)
      ((impl_ValOk x38_5.2).bind fun t51_5 =>
      some (!t51_5))).bind fun t53_5 =>
    cond t53_5 (some (.inr (.inr false))) (some (.inl (w64 (t35_5 + 1)))))
    (some (.inr (.inl ())))
noncomputable def impl_PduOk_l1_6 (p0 : Pdu) (t35_6 : Int) : Option (Int ⊕ (Unit ⊕ Bool)) :=
  cond (decide (t35_6 < (p0.2.2.2.2.length : Int)))
    ((at? p0.2.2.2.2 t35_6).bind fun x38_6 =>
    (cond (decide (t35_6 ≥ 10))
      (some true)
      ((impl_OidOk x38_6.1).bind fun t45_6 =>
      some (!t45_6))).bind fun t47_6 =>
    (cond t47_6
      (some true)
      ((impl_ValOk x38_6.2).bind fun t51_6 =>
      some (!t51_6))).bind fun t53_6 =>
    cond t53_6 (some (.inr (.inr false))) (some (.inl (w64 (t35_6 + 1)))))
    (some (.inr (.inl ())))
noncomputable def impl_PduOk_l1_7 (p0 : Pdu) (t35_7 : Int) : Option (Int ⊕ (Unit ⊕ Bool)) :=
  cond (decide (t35_7 < (p0.2.2.2.2.length : Int)))
    ((at? p0.2.2.2.2 t35_7).bind fun x38_7 =>
    (cond (decide (t35_7 ≥ 10))
      (some true)
      ((impl_OidOk x38_7.1).bind fun t45_7 =>
      some (!t45_7))).bind fun t47_7 =>
    (cond t47_7
      (some true)
      ((impl_ValOk x38_7.2).bind fun t51_7 =>
      some (!t51_7))).bind fun t53_7 =>
    cond t53_7 (some (.inr (.inr false))) (some (.inl (w64 (t35_7 + 1)))))
    (some (.inr (.inl ())))
noncomputable def impl_PduOk_l1_8 (p0 : Pdu) (t35_8 : Int) : Option (Int ⊕ (Unit ⊕ Bool)) :=
  cond (decide (t35_8 < (p0.2.2.2.2.length : Int)))
    ((at? p0.2.2.2.2 t35_8).bind fun x38_8 =>
    (cond (decide (t35_8 ≥ 10))
      (some true)
      ((impl_OidOk x38_8.1).bind fun t45_8 =>
      some (!t45_8))).bind fun t47_8 =>
    (cond t47_8
      (some true)
      ((impl_ValOk x38_8.2).bind fun t51_8 =>
      some (!t51_8))).bind fun t53_8 =>
    cond t53_8 (some (.inr (.inr false))) (some (.inl (w64 (t35_8 + 1)))))
    (some (.inr (.inl ())))
noncomputable def impl_PduOk (p0 : Pdu) : Option Bool :=
  cond (p0.1 == 160)
    (cond (p0.1 == 160)
      ((cond (p0.2.2.1 != 0) (some true) (some (p0.2.2.2.1 != 0))).bind fun t18 =>
      cond t18
        (some false)
        ((loop (fun z => impl_PduOk_l1 p0 z) 0).bind (Sum.elim (fun d =>
          (impl_isInt p0.2.1).bind fun t57 =>
          some t57) (fun r => some r))))
      (cond (p0.1 == 162)
        (cond (p0.1 == 162)
          ((impl_in p0.2.2.1 0 1000).bind fun t24 =>
          (cond (!t24)
            (some true)
            ((impl_in p0.2.2.2.1 0 1000).bind fun t29 =>
            some (!t29))).bind fun t31 =>
          cond t31
            (some false)
            ((loop (fun z => impl_PduOk_l1_1 p0 z) 0).bind (Sum.elim (fun d_1 =>
              (impl_isInt p0.2.1).bind fun t57_1 =>
              some t57_1) (fun r_1 => some r_1))))
          (some false))
        (cond (p0.1 == 165)
          ((impl_in p0.2.2.1 0 1000).bind fun t24_1 =>
          (cond (!t24_1)
            (some true)
            ((impl_in p0.2.2.2.1 0 1000).bind fun t29_1 =>
            some (!t29_1))).bind fun t31_1 =>
          cond t31_1
            (some false)
            ((loop (fun z => impl_PduOk_l1_2 p0 z) 0).bind (Sum.elim (fun d_2 =>
              (impl_isInt p0.2.1).bind fun t57_2 =>
              some t57_2) (fun r_2 => some r_2))))
          (some false))))
    (cond (p0.1 == 161)
      (cond (p0.1 == 161)
        ((cond (p0.2.2.1 != 0) (some true) (some (p0.2.2.2.1 != 0))).bind fun t18_1 =>
        cond t18_1
          (some false)
          ((loop (fun z => impl_PduOk_l1_3 p0 z) 0).bind (Sum.elim (fun d_3 =>
            (impl_isInt p0.2.1).bind fun t57_3 =>
            some t57_3) (fun r_3 => some r_3))))
        (cond (p0.1 == 162)
          (cond (p0.1 == 162)
            ((impl_in p0.2.2.1 0 1000).bind fun t24_2 =>
            (cond (!t24_2)
              (some true)
              ((impl_in p0.2.2.2.1 0 1000).bind fun t29_2 =>
              some (!t29_2))).bind fun t31_2 =>
            cond t31_2
              (some false)
              ((loop (fun z => impl_PduOk_l1_4 p0 z) 0).bind (Sum.elim (fun d_4 =>
                (impl_isInt p0.2.1).bind fun t57_4 =>
                some t57_4) (fun r_4 => some r_4))))
            (some false))
          (cond (p0.1 == 165)
            ((impl_in p0.2.2.1 0 1000).bind fun t24_3 =>
            (cond (!t24_3)
              (some true)
              ((impl_in p0.2.2.2.1 0 1000).bind fun t29_3 =>
              some (!t29_3))).bind fun t31_3 =>
            cond t31_3
              (some false)
              ((loop (fun z => impl_PduOk_l1_5 p0 z) 0).bind (Sum.elim (fun d_5 =>
                (impl_isInt p0.2.1).bind fun t57_5 =>
                some t57_5) (fun r_5 => some r_5))))
            (some false))))
      (cond (p0.1 == 163)
        ((cond (p0.2.2.1 != 0) (some true) (some (p0.2.2.2.1 != 0))).bind fun t18_2 =>
        cond t18_2
          (some false)
          ((loop (fun z => impl_PduOk_l1_6 p0 z) 0).bind (Sum.elim (fun d_6 =>
            (impl_isInt p0.2.1).bind fun t57_6 =>
            some t57_6) (fun r_6 => some r_6))))
        (cond (p0.1 == 162)
          (cond (p0.1 == 162)
            ((impl_in p0.2.2.1 0 1000).bind fun t24_4 =>
            (cond (!t24_4)
              (some true)
              ((impl_in p0.2.2.2.1 0 1000).bind fun t29_4 =>
              some (!t29_4))).bind fun t31_4 =>
            cond t31_4
              (some false)
              ((loop (fun z => impl_PduOk_l1_7 p0 z) 0).bind (Sum.elim (fun d_7 =>
                (impl_isInt p0.2.1).bind fun t57_7 =>
                some t57_7) (fun r_7 => some r_7))))
            (some false))
          (cond (p0.1 == 165)
            ((impl_in p0.2.2.1 0 1000).bind fun t24_5 =>
            (cond (!t24_5)
              (some true)
              ((impl_in p0.2.2.2.1 0 1000).bind fun t29_5 =>
              some (!t29_5))).bind fun t31_5 =>
            cond t31_5
              (some false)
              ((loop (fun z => impl_PduOk_l1_8 p0 z) 0).bind (Sum.elim (fun d_8 =>
                (impl_isInt p0.2.1).bind fun t57_8 =>
                some t57_8) (fun r_8 => some r_8))))
            (some false)))))
noncomputable def F_impl_PduOk : Fn := ⟨[.val true cPdu false], [.val false (.one .bool) true], fun a => impl_PduOk a⟩
def a_impl_PduOk : List (Nat × LoopAnn) := [(1, ⟨⟨[(35, false, [.dat (.int .i64)]), (43, false, [.undef]), (44, false, [.undef]), (45, false, [.undef]), (46, false, [.undef]), (49, false, [.undef]), (50, false, [.undef]), (51, false, [.undef]), (52, false, [.undef])], []⟩,
    ⟨[], []⟩, some ⟨[(2, false, [.dat .bool])], []⟩⟩)]
theorem e_impl_PduOk : fnDen ⟨tis, fns_257⟩ a_impl_PduOk Try.f195 (codeOf Try.f195) [.val true cPdu false] [.val false (.one .bool) true] = fun a => impl_PduOk a := by kernel_rfl
theorem m_impl_PduOk : Meets Try.prog 195 F_impl_PduOk := by
  have h := meets_of (ann := a_impl_PduOk) (ps := [.val true cPdu false]) (rs := [.val false (.one .bool) true]) g_257 mixed Try.func195 (by kernel_rfl) (by kernel_rfl : Try.f195.body = some (codeOf Try.f195))
  rw [e_impl_PduOk] at h
  exact h
noncomputable def fns_195 : List (FuncId × Fn) := (195, F_impl_PduOk) :: fns_257
theorem g_195 : Good Try.prog ⟨tis, fns_195⟩ := g_257.cons m_impl_PduOk
noncomputable def impl_jobOk (j0 : Job) : Option Bool :=
  (impl_in j0.2.2.1 0 2).bind fun t5 =>
  (cond (!t5)
    (some true)
    ((impl_in j0.2.2.2.2.2.2.2.2.2.2.2.2.2.2.2.2.2.2.2.1 0 (j0.2.2.2.2.2.2.2.1.length : Int)).bind fun t14 =>
    some (!t14))).bind fun t16 =>
  (cond t16
    (some true)
    ((impl_in j0.2.2.2.2.2.2.2.2.2.2.2.2.2.2.2.2.2.2.2.2 0 3).bind fun t20 =>
    some (!t20))).bind fun t22 =>
  cond t22
    (some false)
    ((cond (j0.2.2.1 == 0)
      (some true)
      ((impl_PduOk (j0.2.2.2.1, j0.2.2.2.2.1, j0.2.2.2.2.2.1, j0.2.2.2.2.2.2.1, j0.2.2.2.2.2.2.2.1)).bind fun t29 =>
      (cond t29 (some (j0.2.2.2.1 != 162)) (some false)).bind fun t35 =>
      (cond t35
        ((impl_BridgeOk (j0.2.2.2.2.2.2.2.2.1, j0.2.2.2.2.2.2.2.2.2.1, j0.2.2.2.2.2.2.2.2.2.2.1, j0.2.2.2.2.2.2.2.2.2.2.2.1, j0.2.2.2.2.2.2.2.2.2.2.2.2.1, j0.2.2.2.2.2.2.2.2.2.2.2.2.2.1, j0.2.2.2.2.2.2.2.2.2.2.2.2.2.2.1, j0.2.2.2.2.2.2.2.2.2.2.2.2.2.2.2.1, j0.2.2.2.2.2.2.2.2.2.2.2.2.2.2.2.2.1, j0.2.2.2.2.2.2.2.2.2.2.2.2.2.2.2.2.2.1, j0.2.2.2.2.2.2.2.2.2.2.2.2.2.2.2.2.2.2.1)).bind fun t39 =>
        some t39)
        (some false)).bind fun t40 =>
      some t40)).bind fun t41 =>
    some t41)
noncomputable def F_impl_jobOk : Fn := ⟨[.val true cJob false], [.val false (.one .bool) true], fun a => impl_jobOk a⟩
def a_impl_jobOk : List (Nat × LoopAnn) := []
theorem e_impl_jobOk : fnDen ⟨tis, fns_195⟩ a_impl_jobOk Try.f119 (codeOf Try.f119) [.val true cJob false] [.val false (.one .bool) true] = fun a => impl_jobOk a := by kernel_rfl
theorem m_impl_jobOk : Meets Try.prog 119 F_impl_jobOk := by
  have h := meets_of (ann := a_impl_jobOk) (ps := [.val true cJob false]) (rs := [.val false (.one .bool) true]) g_195 mixed Try.func119 (by kernel_rfl) (by kernel_rfl : Try.f119.body = some (codeOf Try.f119))
  rw [e_impl_jobOk] at h
  exact h
noncomputable def fns_119 : List (FuncId × Fn) := (119, F_impl_jobOk) :: fns_195
theorem g_119 : Good Try.prog ⟨tis, fns_119⟩ := g_195.cons m_impl_jobOk
noncomputable def impl_AgentOk_l0 (p0 : Agent) (t36 : Int) : Option (Int ⊕ (Unit ⊕ Bool)) :=
  cond (decide (t36 < (p0.2.2.2.2.2.2.2.2.2.2.2.2.1.length : Int)))
    ((at? p0.2.2.2.2.2.2.2.2.2.2.2.2.1 t36).bind fun x39 =>
    (impl_in x39.1 1 p0.2.2.2.2.2.2.2.2.2.2.2.2.2.2).bind fun t45 =>
    (cond (!t45)
      (some true)
      ((cond (decide (t36 > 0))
        ((at? p0.2.2.2.2.2.2.2.2.2.2.2.2.1 (w64 (t36 - 1))).bind fun x55 =>
        some (decide (x55.1 ≥ x39.1)))
        (some false)).bind fun t61 =>
      some t61)).bind fun t62 =>
    (cond t62
      (some true)
      ((impl_jobOk x39).bind fun t65 =>
      some (!t65))).bind fun t67 =>
    cond t67 (some (.inr (.inr false))) (some (.inl (w64 (t36 + 1)))))
    (some (.inr (.inl ())))
noncomputable def impl_AgentOk (p0 : Agent) : Option Bool :=
  (impl_BridgeOk (p0.1, p0.2.1, p0.2.2.1, p0.2.2.2.1, p0.2.2.2.2.1, p0.2.2.2.2.2.1, p0.2.2.2.2.2.2.1, p0.2.2.2.2.2.2.2.1, p0.2.2.2.2.2.2.2.2.1, p0.2.2.2.2.2.2.2.2.2.1, p0.2.2.2.2.2.2.2.2.2.2.1)).bind fun t7 =>
  (cond (!t7)
    (some true)
    (some (decide ((p0.2.2.2.2.2.2.2.2.2.2.2.1.length : Int) > 20)))).bind fun t14 =>
  (cond t14
    (some true)
    (some (decide ((p0.2.2.2.2.2.2.2.2.2.2.2.2.1.length : Int) > 6)))).bind fun t20 =>
  (cond t20
    (some true)
    ((impl_isCount p0.2.2.2.2.2.2.2.2.2.2.2.2.2.1).bind fun t24 =>
    some (!t24))).bind fun t26 =>
  (cond t26
    (some true)
    ((impl_isCount p0.2.2.2.2.2.2.2.2.2.2.2.2.2.2).bind fun t30 =>
    some (!t30))).bind fun t32 =>
  cond t32
    (some false)
    ((loop (fun z => impl_AgentOk_l0 p0 z) 0).bind (Sum.elim (fun d =>
      some true) (fun r => some r)))
noncomputable def F_impl_AgentOk : Fn := ⟨[.val true cAgent false], [.val false (.one .bool) true], fun a => impl_AgentOk a⟩
def a_impl_AgentOk : List (Nat × LoopAnn) := [(0, ⟨⟨[(36, false, [.dat (.int .i64)]), (48, false, [.undef]), (49, false, [.undef]), (50, false, [.undef]), (51, false, [.undef]), (52, false, [.undef]), (53, false, [.undef]), (54, false, [.undef]), (55, false, [.undef]), (56, false, [.undef]), (57, false, [.undef]), (58, false, [.undef]), (59, false, [.undef]), (60, false, [.undef]), (61, false, [.undef]), (64, false, [.undef]), (65, false, [.undef]), (66, false, [.undef])], []⟩,
    ⟨[], []⟩, some ⟨[(2, false, [.dat .bool])], []⟩⟩)]
theorem e_impl_AgentOk : fnDen ⟨tis, fns_119⟩ a_impl_AgentOk Try.f47 (codeOf Try.f47) [.val true cAgent false] [.val false (.one .bool) true] = fun a => impl_AgentOk a := by kernel_rfl
theorem m_impl_AgentOk : Meets Try.prog 47 F_impl_AgentOk := by
  have h := meets_of (ann := a_impl_AgentOk) (ps := [.val true cAgent false]) (rs := [.val false (.one .bool) true]) g_119 mixed Try.func47 (by kernel_rfl) (by kernel_rfl : Try.f47.body = some (codeOf Try.f47))
  rw [e_impl_AgentOk] at h
  exact h
noncomputable def fns_47 : List (FuncId × Fn) := (47, F_impl_AgentOk) :: fns_119
theorem g_47 : Good Try.prog ⟨tis, fns_47⟩ := g_119.cons m_impl_AgentOk
noncomputable def laws_eqVec (a0 : Vec) (b1 : Vec) : Option Bool :=
  cond (a0.1 != b1.1)
    (some false)
    (cond (a0.2.1 != b1.2.1)
      (some false)
      (cond (a0.2.2.1 != b1.2.2.1)
        (some false)
        (cond (a0.2.2.2.1 != b1.2.2.2.1)
          (some false)
          (cond (a0.2.2.2.2 != b1.2.2.2.2) (some false) (some true)))))
noncomputable def F_laws_eqVec : Fn := ⟨[.val true cVec false, .val true cVec false], [.val false (.one .bool) true], fun a => laws_eqVec a.1 a.2⟩
def a_laws_eqVec : List (Nat × LoopAnn) := []
theorem e_laws_eqVec : fnDen ⟨tis, fns_47⟩ a_laws_eqVec Try.f213 (codeOf Try.f213) [.val true cVec false, .val true cVec false] [.val false (.one .bool) true] = fun a => laws_eqVec a.1 a.2 := by kernel_rfl
theorem m_laws_eqVec : Meets Try.prog 213 F_laws_eqVec := by
  have h := meets_of (ann := a_laws_eqVec) (ps := [.val true cVec false, .val true cVec false]) (rs := [.val false (.one .bool) true]) g_47 mixed Try.func213 (by kernel_rfl) (by kernel_rfl : Try.f213.body = some (codeOf Try.f213))
  rw [e_laws_eqVec] at h
  exact h
noncomputable def fns_213 : List (FuncId × Fn) := (213, F_laws_eqVec) :: fns_47
theorem g_213 : Good Try.prog ⟨tis, fns_213⟩ := g_47.cons m_laws_eqVec
noncomputable def laws_eqPt (a0 : Pt) (b1 : Pt) : Option Bool :=
  cond (!(a0.1 == b1.1))
    (some false)
    (cond (a0.2.1 != b1.2.1)
      (some false)
      (cond (!(a0.2.2.1 == b1.2.2.1))
        (some false)
        ((laws_eqVec a0.2.2.2 b1.2.2.2).bind fun t24 =>
        cond (!t24) (some false) (some true))))
noncomputable def F_laws_eqPt : Fn := ⟨[.val true cPt false, .val true cPt false], [.val false (.one .bool) true], fun a => laws_eqPt a.1 a.2⟩
def a_laws_eqPt : List (Nat × LoopAnn) := []
theorem e_laws_eqPt : fnDen ⟨tis, fns_213⟩ a_laws_eqPt Try.f148 (codeOf Try.f148) [.val true cPt false, .val true cPt false] [.val false (.one .bool) true] = fun a => laws_eqPt a.1 a.2 := by kernel_rfl
theorem m_laws_eqPt : Meets Try.prog 148 F_laws_eqPt := by
  have h := meets_of (ann := a_laws_eqPt) (ps := [.val true cPt false, .val true cPt false]) (rs := [.val false (.one .bool) true]) g_213 mixed Try.func148 (by kernel_rfl) (by kernel_rfl : Try.f148.body = some (codeOf Try.f148))
  rw [e_laws_eqPt] at h
  exact h
noncomputable def fns_148 : List (FuncId × Fn) := (148, F_laws_eqPt) :: fns_213
theorem g_148 : Good Try.prog ⟨tis, fns_148⟩ := g_213.cons m_laws_eqPt
noncomputable def laws_eqPtS_l0 (a0 : List Pt) (b1 : List Pt) (i5 : Int) : Option (Int ⊕ (Unit ⊕ Bool)) :=
  cond (decide (i5 < (a0.length : Int)))
    ((at? a0 i5).bind fun x19 =>
    (at? b1 i5).bind fun x23 =>
    (laws_eqPt x19 x23).bind fun t25 =>
    cond (!t25) (some (.inr (.inr false))) (some (.inl (w64 (i5 + 1)))))
    (some (.inr (.inl ())))
noncomputable def laws_eqPtS (a0 : List Pt) (b1 : List Pt) : Option Bool :=
  cond ((a0.length : Int) != (b1.length : Int))
    (some false)
    ((loop (fun z => laws_eqPtS_l0 a0 b1 z) 0).bind (Sum.elim (fun d =>
      some true) (fun r => some r)))
noncomputable def F_laws_eqPtS : Fn := ⟨[.val false (.one (.sl cPt)) false, .val false (.one (.sl cPt)) false], [.val false (.one .bool) true], fun a => laws_eqPtS a.1 a.2⟩
def a_laws_eqPtS : List (Nat × LoopAnn) := [(0, ⟨⟨[(5, false, [.dat (.int .i64)])], []⟩,
    ⟨[], []⟩, some ⟨[(4, false, [.dat .bool])], []⟩⟩)]
theorem e_laws_eqPtS : fnDen ⟨tis, fns_148⟩ a_laws_eqPtS Try.f74 (codeOf Try.f74) [.val false (.one (.sl cPt)) false, .val false (.one (.sl cPt)) false] [.val false (.one .bool) true] = fun a => laws_eqPtS a.1 a.2 := by kernel_rfl
theorem m_laws_eqPtS : Meets Try.prog 74 F_laws_eqPtS := by
  have h := meets_of (ann := a_laws_eqPtS) (ps := [.val false (.one (.sl cPt)) false, .val false (.one (.sl cPt)) false]) (rs := [.val false (.one .bool) true]) g_148 mixed Try.func74 (by kernel_rfl) (by kernel_rfl : Try.f74.body = some (codeOf Try.f74))
  rw [e_laws_eqPtS] at h
  exact h
noncomputable def fns_74 : List (FuncId × Fn) := (74, F_laws_eqPtS) :: fns_148
theorem g_74 : Good Try.prog ⟨tis, fns_74⟩ := g_148.cons m_laws_eqPtS
noncomputable def laws_eqFent (a0 : Fent) (b1 : Fent) : Option Bool :=
  cond (a0.1 != b1.1)
    (some false)
    (cond (a0.2.1 != b1.2.1)
      (some false)
      (cond (a0.2.2.1 != b1.2.2.1)
        (some false)
        (cond (a0.2.2.2.1 != b1.2.2.2.1)
          (some false)
          (cond (!(a0.2.2.2.2 == b1.2.2.2.2)) (some false) (some true)))))
noncomputable def F_laws_eqFent : Fn := ⟨[.val true cFent false, .val true cFent false], [.val false (.one .bool) true], fun a => laws_eqFent a.1 a.2⟩
def a_laws_eqFent : List (Nat × LoopAnn) := []
theorem e_laws_eqFent : fnDen ⟨tis, fns_74⟩ a_laws_eqFent Try.f149 (codeOf Try.f149) [.val true cFent false, .val true cFent false] [.val false (.one .bool) true] = fun a => laws_eqFent a.1 a.2 := by kernel_rfl
theorem m_laws_eqFent : Meets Try.prog 149 F_laws_eqFent := by
  have h := meets_of (ann := a_laws_eqFent) (ps := [.val true cFent false, .val true cFent false]) (rs := [.val false (.one .bool) true]) g_74 mixed Try.func149 (by kernel_rfl) (by kernel_rfl : Try.f149.body = some (codeOf Try.f149))
  rw [e_laws_eqFent] at h
  exact h
noncomputable def fns_149 : List (FuncId × Fn) := (149, F_laws_eqFent) :: fns_74
theorem g_149 : Good Try.prog ⟨tis, fns_149⟩ := g_74.cons m_laws_eqFent
noncomputable def laws_eqFentS_l0 (a0 : List Fent) (b1 : List Fent) (i5 : Int) : Option (Int ⊕ (Unit ⊕ Bool)) :=
  cond (decide (i5 < (a0.length : Int)))
    ((at? a0 i5).bind fun x19 =>
    (at? b1 i5).bind fun x23 =>
    (laws_eqFent x19 x23).bind fun t25 =>
    cond (!t25) (some (.inr (.inr false))) (some (.inl (w64 (i5 + 1)))))
    (some (.inr (.inl ())))
noncomputable def laws_eqFentS (a0 : List Fent) (b1 : List Fent) : Option Bool :=
  cond ((a0.length : Int) != (b1.length : Int))
    (some false)
    ((loop (fun z => laws_eqFentS_l0 a0 b1 z) 0).bind (Sum.elim (fun d =>
      some true) (fun r => some r)))
noncomputable def F_laws_eqFentS : Fn := ⟨[.val false (.one (.sl cFent)) false, .val false (.one (.sl cFent)) false], [.val false (.one .bool) true], fun a => laws_eqFentS a.1 a.2⟩
def a_laws_eqFentS : List (Nat × LoopAnn) := [(0, ⟨⟨[(5, false, [.dat (.int .i64)])], []⟩,
    ⟨[], []⟩, some ⟨[(4, false, [.dat .bool])], []⟩⟩)]
theorem e_laws_eqFentS : fnDen ⟨tis, fns_149⟩ a_laws_eqFentS Try.f75 (codeOf Try.f75) [.val false (.one (.sl cFent)) false, .val false (.one (.sl cFent)) false] [.val false (.one .bool) true] = fun a => laws_eqFentS a.1 a.2 := by kernel_rfl
theorem m_laws_eqFentS : Meets Try.prog 75 F_laws_eqFentS := by
  have h := meets_of (ann := a_laws_eqFentS) (ps := [.val false (.one (.sl cFent)) false, .val false (.one (.sl cFent)) false]) (rs := [.val false (.one .bool) true]) g_149 mixed Try.func75 (by kernel_rfl) (by kernel_rfl : Try.f75.body = some (codeOf Try.f75))
  rw [e_laws_eqFentS] at h
  exact h
noncomputable def fns_75 : List (FuncId × Fn) := (75, F_laws_eqFentS) :: fns_149
theorem g_75 : Good Try.prog ⟨tis, fns_75⟩ := g_149.cons m_laws_eqFentS
noncomputable def laws_eqIntS_l0 (a0 : List Int) (b1 : List Int) (i5 : Int) : Option (Int ⊕ (Unit ⊕ Bool)) :=
  cond (decide (i5 < (a0.length : Int)))
    ((at? a0 i5).bind fun x19 =>
    (at? b1 i5).bind fun x23 =>
    cond (x19 != x23) (some (.inr (.inr false))) (some (.inl (w64 (i5 + 1)))))
    (some (.inr (.inl ())))
noncomputable def laws_eqIntS (a0 : List Int) (b1 : List Int) : Option Bool :=
  cond ((a0.length : Int) != (b1.length : Int))
    (some false)
    ((loop (fun z => laws_eqIntS_l0 a0 b1 z) 0).bind (Sum.elim (fun d =>
      some true) (fun r => some r)))
noncomputable def F_laws_eqIntS : Fn := ⟨[.val false (.one (.sl (.one (.int .i64)))) false, .val false (.one (.sl (.one (.int .i64)))) false], [.val false (.one .bool) true], fun a => laws_eqIntS a.1 a.2⟩
def a_laws_eqIntS : List (Nat × LoopAnn) := [(0, ⟨⟨[(5, false, [.dat (.int .i64)])], []⟩,
    ⟨[], []⟩, some ⟨[(4, false, [.dat .bool])], []⟩⟩)]
theorem e_laws_eqIntS : fnDen ⟨tis, fns_75⟩ a_laws_eqIntS Try.f18 (codeOf Try.f18) [.val false (.one (.sl (.one (.int .i64)))) false, .val false (.one (.sl (.one (.int .i64)))) false] [.val false (.one .bool) true] = fun a => laws_eqIntS a.1 a.2 := by kernel_rfl
theorem m_laws_eqIntS : Meets Try.prog 18 F_laws_eqIntS := by
  have h := meets_of (ann := a_laws_eqIntS) (ps := [.val false (.one (.sl (.one (.int .i64)))) false, .val false (.one (.sl (.one (.int .i64)))) false]) (rs := [.val false (.one .bool) true]) g_75 mixed Try.func18 (by kernel_rfl) (by kernel_rfl : Try.f18.body = some (codeOf Try.f18))
  rw [e_laws_eqIntS] at h
  exact h
noncomputable def fns_18 : List (FuncId × Fn) := (18, F_laws_eqIntS) :: fns_75
theorem g_18 : Good Try.prog ⟨tis, fns_18⟩ := g_75.cons m_laws_eqIntS
noncomputable def laws_eqVrow (a0 : Vrow) (b1 : Vrow) : Option Bool :=
  cond (a0.1 != b1.1)
    (some false)
    (cond (a0.2.1 != b1.2.1) (some false) (cond (a0.2.2 != b1.2.2) (some false) (some true)))
noncomputable def F_laws_eqVrow : Fn := ⟨[.val true cVrow false, .val true cVrow false], [.val false (.one .bool) true], fun a => laws_eqVrow a.1 a.2⟩
def a_laws_eqVrow : List (Nat × LoopAnn) := []
theorem e_laws_eqVrow : fnDen ⟨tis, fns_18⟩ a_laws_eqVrow Try.f214 (codeOf Try.f214) [.val true cVrow false, .val true cVrow false] [.val false (.one .bool) true] = fun a => laws_eqVrow a.1 a.2 := by kernel_rfl
theorem m_laws_eqVrow : Meets Try.prog 214 F_laws_eqVrow := by
  have h := meets_of (ann := a_laws_eqVrow) (ps := [.val true cVrow false, .val true cVrow false]) (rs := [.val false (.one .bool) true]) g_18 mixed Try.func214 (by kernel_rfl) (by kernel_rfl : Try.f214.body = some (codeOf Try.f214))
  rw [e_laws_eqVrow] at h
  exact h
noncomputable def fns_214 : List (FuncId × Fn) := (214, F_laws_eqVrow) :: fns_18
theorem g_214 : Good Try.prog ⟨tis, fns_214⟩ := g_18.cons m_laws_eqVrow
noncomputable def laws_eqVrowS_l0 (a0 : List Vrow) (b1 : List Vrow) (i5 : Int) : Option (Int ⊕ (Unit ⊕ Bool)) :=
  cond (decide (i5 < (a0.length : Int)))
    ((at? a0 i5).bind fun x19 =>
    (at? b1 i5).bind fun x23 =>
    (laws_eqVrow x19 x23).bind fun t25 =>
    cond (!t25) (some (.inr (.inr false))) (some (.inl (w64 (i5 + 1)))))
    (some (.inr (.inl ())))
noncomputable def laws_eqVrowS (a0 : List Vrow) (b1 : List Vrow) : Option Bool :=
  cond ((a0.length : Int) != (b1.length : Int))
    (some false)
    ((loop (fun z => laws_eqVrowS_l0 a0 b1 z) 0).bind (Sum.elim (fun d =>
      some true) (fun r => some r)))
noncomputable def F_laws_eqVrowS : Fn := ⟨[.val false (.one (.sl cVrow)) false, .val false (.one (.sl cVrow)) false], [.val false (.one .bool) true], fun a => laws_eqVrowS a.1 a.2⟩
def a_laws_eqVrowS : List (Nat × LoopAnn) := [(0, ⟨⟨[(5, false, [.dat (.int .i64)])], []⟩,
    ⟨[], []⟩, some ⟨[(4, false, [.dat .bool])], []⟩⟩)]
theorem e_laws_eqVrowS : fnDen ⟨tis, fns_214⟩ a_laws_eqVrowS Try.f150 (codeOf Try.f150) [.val false (.one (.sl cVrow)) false, .val false (.one (.sl cVrow)) false] [.val false (.one .bool) true] = fun a => laws_eqVrowS a.1 a.2 := by kernel_rfl
theorem m_laws_eqVrowS : Meets Try.prog 150 F_laws_eqVrowS := by
  have h := meets_of (ann := a_laws_eqVrowS) (ps := [.val false (.one (.sl cVrow)) false, .val false (.one (.sl cVrow)) false]) (rs := [.val false (.one .bool) true]) g_214 mixed Try.func150 (by kernel_rfl) (by kernel_rfl : Try.f150.body = some (codeOf Try.f150))
  rw [e_laws_eqVrowS] at h
  exact h
noncomputable def fns_150 : List (FuncId × Fn) := (150, F_laws_eqVrowS) :: fns_214
theorem g_150 : Good Try.prog ⟨tis, fns_150⟩ := g_214.cons m_laws_eqVrowS
noncomputable def laws_eqVtab (a0 : Vtab) (b1 : Vtab) : Option Bool :=
  (laws_eqVrowS a0.1 b1.1).bind fun t9 =>
  cond (!t9)
    (some false)
    ((laws_eqIntS a0.2 b1.2).bind fun t15 =>
    cond (!t15) (some false) (some true))
noncomputable def F_laws_eqVtab : Fn := ⟨[.val true cVtab false, .val true cVtab false], [.val false (.one .bool) true], fun a => laws_eqVtab a.1 a.2⟩
def a_laws_eqVtab : List (Nat × LoopAnn) := []
theorem e_laws_eqVtab : fnDen ⟨tis, fns_150⟩ a_laws_eqVtab Try.f76 (codeOf Try.f76) [.val true cVtab false, .val true cVtab false] [.val false (.one .bool) true] = fun a => laws_eqVtab a.1 a.2 := by kernel_rfl
theorem m_laws_eqVtab : Meets Try.prog 76 F_laws_eqVtab := by
  have h := meets_of (ann := a_laws_eqVtab) (ps := [.val true cVtab false, .val true cVtab false]) (rs := [.val false (.one .bool) true]) g_150 mixed Try.func76 (by kernel_rfl) (by kernel_rfl : Try.f76.body = some (codeOf Try.f76))
  rw [e_laws_eqVtab] at h
  exact h
noncomputable def fns_76 : List (FuncId × Fn) := (76, F_laws_eqVtab) :: fns_150
theorem g_76 : Good Try.prog ⟨tis, fns_76⟩ := g_150.cons m_laws_eqVtab
noncomputable def laws_eqBridge (a0 : Bridge) (b1 : Bridge) : Option Bool :=
  cond (a0.1 != b1.1)
    (some false)
    (cond (!(a0.2.1 == b1.2.1))
      (some false)
      ((laws_eqPtS a0.2.2.1 b1.2.2.1).bind fun t19 =>
      cond (!t19)
        (some false)
        ((laws_eqFentS a0.2.2.2.1 b1.2.2.2.1).bind fun t25 =>
        cond (!t25)
          (some false)
          ((laws_eqVtab (a0.2.2.2.2.1, a0.2.2.2.2.2.1) (b1.2.2.2.2.1, b1.2.2.2.2.2.1)).bind fun t31 =>
          cond (!t31)
            (some false)
            (cond (a0.2.2.2.2.2.2.1 != b1.2.2.2.2.2.2.1)
              (some false)
              (cond (a0.2.2.2.2.2.2.2.1 != b1.2.2.2.2.2.2.2.1)
                (some false)
                (cond (a0.2.2.2.2.2.2.2.2.1 != b1.2.2.2.2.2.2.2.2.1)
                  (some false)
                  (cond (a0.2.2.2.2.2.2.2.2.2.1 != b1.2.2.2.2.2.2.2.2.2.1)
                    (some false)
                    (cond (a0.2.2.2.2.2.2.2.2.2.2 != b1.2.2.2.2.2.2.2.2.2.2) (some false) (some true))))))))))
noncomputable def F_laws_eqBridge : Fn := ⟨[.val true cBridge false, .val true cBridge false], [.val false (.one .bool) true], fun a => laws_eqBridge a.1 a.2⟩
def a_laws_eqBridge : List (Nat × LoopAnn) := []
theorem e_laws_eqBridge : fnDen ⟨tis, fns_76⟩ a_laws_eqBridge Try.f17 (codeOf Try.f17) [.val true cBridge false, .val true cBridge false] [.val false (.one .bool) true] = fun a => laws_eqBridge a.1 a.2 := by kernel_rfl
theorem m_laws_eqBridge : Meets Try.prog 17 F_laws_eqBridge := by
  have h := meets_of (ann := a_laws_eqBridge) (ps := [.val true cBridge false, .val true cBridge false]) (rs := [.val false (.one .bool) true]) g_76 mixed Try.func17 (by kernel_rfl) (by kernel_rfl : Try.f17.body = some (codeOf Try.f17))
  rw [e_laws_eqBridge] at h
  exact h
noncomputable def fns_17 : List (FuncId × Fn) := (17, F_laws_eqBridge) :: fns_76
theorem g_17 : Good Try.prog ⟨tis, fns_17⟩ := g_76.cons m_laws_eqBridge
noncomputable def laws_eqByteS_l0 (a0 : List Int) (b1 : List Int) (i5 : Int) : Option (Int ⊕ (Unit ⊕ Bool)) :=
  cond (decide (i5 < (a0.length : Int)))
    ((at? a0 i5).bind fun x19 =>
    (at? b1 i5).bind fun x23 =>
    cond (x19 != x23) (some (.inr (.inr false))) (some (.inl (w64 (i5 + 1)))))
    (some (.inr (.inl ())))
noncomputable def laws_eqByteS (a0 : List Int) (b1 : List Int) : Option Bool :=
  cond ((a0.length : Int) != (b1.length : Int))
    (some false)
    ((loop (fun z => laws_eqByteS_l0 a0 b1 z) 0).bind (Sum.elim (fun d =>
      some true) (fun r => some r)))
noncomputable def F_laws_eqByteS : Fn := ⟨[.val false (.one (.sl (.one (.int .u8)))) false, .val false (.one (.sl (.one (.int .u8)))) false], [.val false (.one .bool) true], fun a => laws_eqByteS a.1 a.2⟩
def a_laws_eqByteS : List (Nat × LoopAnn) := [(0, ⟨⟨[(5, false, [.dat (.int .i64)])], []⟩,
    ⟨[], []⟩, some ⟨[(4, false, [.dat .bool])], []⟩⟩)]
theorem e_laws_eqByteS : fnDen ⟨tis, fns_17⟩ a_laws_eqByteS Try.f259 (codeOf Try.f259) [.val false (.one (.sl (.one (.int .u8)))) false, .val false (.one (.sl (.one (.int .u8)))) false] [.val false (.one .bool) true] = fun a => laws_eqByteS a.1 a.2 := by kernel_rfl
theorem m_laws_eqByteS : Meets Try.prog 259 F_laws_eqByteS := by
  have h := meets_of (ann := a_laws_eqByteS) (ps := [.val false (.one (.sl (.one (.int .u8)))) false, .val false (.one (.sl (.one (.int .u8)))) false]) (rs := [.val false (.one .bool) true]) g_17 mixed Try.func259 (by kernel_rfl) (by kernel_rfl : Try.f259.body = some (codeOf Try.f259))
  rw [e_laws_eqByteS] at h
  exact h
noncomputable def fns_259 : List (FuncId × Fn) := (259, F_laws_eqByteS) :: fns_17
theorem g_259 : Good Try.prog ⟨tis, fns_259⟩ := g_17.cons m_laws_eqByteS
noncomputable def laws_eqVal (a0 : Val) (b1 : Val) : Option Bool :=
  cond (a0.1 != b1.1)
    (some false)
    (cond (a0.2.1 != b1.2.1)
      (some false)
      (cond (!(a0.2.2.1 == b1.2.2.1))
        (some false)
        ((laws_eqIntS a0.2.2.2 b1.2.2.2).bind fun t24 =>
        cond (!t24) (some false) (some true))))
noncomputable def F_laws_eqVal : Fn := ⟨[.val true cVal false, .val true cVal false], [.val false (.one .bool) true], fun a => laws_eqVal a.1 a.2⟩
def a_laws_eqVal : List (Nat × LoopAnn) := []
theorem e_laws_eqVal : fnDen ⟨tis, fns_259⟩ a_laws_eqVal Try.f133 (codeOf Try.f133) [.val true cVal false, .val true cVal false] [.val false (.one .bool) true] = fun a => laws_eqVal a.1 a.2 := by kernel_rfl
theorem m_laws_eqVal : Meets Try.prog 133 F_laws_eqVal := by
  have h := meets_of (ann := a_laws_eqVal) (ps := [.val true cVal false, .val true cVal false]) (rs := [.val false (.one .bool) true]) g_259 mixed Try.func133 (by kernel_rfl) (by kernel_rfl : Try.f133.body = some (codeOf Try.f133))
  rw [e_laws_eqVal] at h
  exact h
noncomputable def fns_133 : List (FuncId × Fn) := (133, F_laws_eqVal) :: fns_259
theorem g_133 : Good Try.prog ⟨tis, fns_133⟩ := g_259.cons m_laws_eqVal
noncomputable def laws_eqBind (a0 : Bind) (b1 : Bind) : Option Bool :=
  (laws_eqIntS a0.1 b1.1).bind fun t9 =>
  cond (!t9)
    (some false)
    ((laws_eqVal a0.2 b1.2).bind fun t15 =>
    cond (!t15) (some false) (some true))
noncomputable def F_laws_eqBind : Fn := ⟨[.val true cBind false, .val true cBind false], [.val false (.one .bool) true], fun a => laws_eqBind a.1 a.2⟩
def a_laws_eqBind : List (Nat × LoopAnn) := []
theorem e_laws_eqBind : fnDen ⟨tis, fns_133⟩ a_laws_eqBind Try.f61 (codeOf Try.f61) [.val true cBind false, .val true cBind false] [.val false (.one .bool) true] = fun a => laws_eqBind a.1 a.2 := by kernel_rfl
theorem m_laws_eqBind : Meets Try.prog 61 F_laws_eqBind := by
  have h := meets_of (ann := a_laws_eqBind) (ps := [.val true cBind false, .val true cBind false]) (rs := [.val false (.one .bool) true]) g_133 mixed Try.func61 (by kernel_rfl) (by kernel_rfl : Try.f61.body = some (codeOf Try.f61))
  rw [e_laws_eqBind] at h
  exact h
noncomputable def fns_61 : List (FuncId × Fn) := (61, F_laws_eqBind) :: fns_133
theorem g_61 : Good Try.prog ⟨tis, fns_61⟩ := g_133.cons m_laws_eqBind
noncomputable def laws_eqBindS_l0 (a0 : List Bind) (b1 : List Bind) (i5 : Int) : Option (Int ⊕ (Unit ⊕ Bool)) :=
  cond (decide (i5 < (a0.length : Int)))
    ((at? a0 i5).bind fun x19 =>
    (at? b1 i5).bind fun x23 =>
    (laws_eqBind x19 x23).bind fun t25 =>
    cond (!t25) (some (.inr (.inr false))) (some (.inl (w64 (i5 + 1)))))
    (some (.inr (.inl ())))
noncomputable def laws_eqBindS (a0 : List Bind) (b1 : List Bind) : Option Bool :=
  cond ((a0.length : Int) != (b1.length : Int))
    (some false)
    ((loop (fun z => laws_eqBindS_l0 a0 b1 z) 0).bind (Sum.elim (fun d =>
      some true) (fun r => some r)))
noncomputable def F_laws_eqBindS : Fn := ⟨[.val false (.one (.sl cBind)) false, .val false (.one (.sl cBind)) false], [.val false (.one .bool) true], fun a => laws_eqBindS a.1 a.2⟩
def a_laws_eqBindS : List (Nat × LoopAnn) := [(0, ⟨⟨[(5, false, [.dat (.int .i64)])], []⟩,
    ⟨[], []⟩, some ⟨[(4, false, [.dat .bool])], []⟩⟩)]
theorem e_laws_eqBindS : fnDen ⟨tis, fns_61⟩ a_laws_eqBindS Try.f49 (codeOf Try.f49) [.val false (.one (.sl cBind)) false, .val false (.one (.sl cBind)) false] [.val false (.one .bool) true] = fun a => laws_eqBindS a.1 a.2 := by kernel_rfl
theorem m_laws_eqBindS : Meets Try.prog 49 F_laws_eqBindS := by
  have h := meets_of (ann := a_laws_eqBindS) (ps := [.val false (.one (.sl cBind)) false, .val false (.one (.sl cBind)) false]) (rs := [.val false (.one .bool) true]) g_61 mixed Try.func49 (by kernel_rfl) (by kernel_rfl : Try.f49.body = some (codeOf Try.f49))
  rw [e_laws_eqBindS] at h
  exact h
noncomputable def fns_49 : List (FuncId × Fn) := (49, F_laws_eqBindS) :: fns_61
theorem g_49 : Good Try.prog ⟨tis, fns_49⟩ := g_61.cons m_laws_eqBindS
noncomputable def laws_eqPdu (a0 : Pdu) (b1 : Pdu) : Option Bool :=
  cond (a0.1 != b1.1)
    (some false)
    (cond (a0.2.1 != b1.2.1)
      (some false)
      (cond (a0.2.2.1 != b1.2.2.1)
        (some false)
        (cond (a0.2.2.2.1 != b1.2.2.2.1)
          (some false)
          ((laws_eqBindS a0.2.2.2.2 b1.2.2.2.2).bind fun t29 =>
          cond (!t29) (some false) (some true)))))
noncomputable def F_laws_eqPdu : Fn := ⟨[.val true cPdu false, .val true cPdu false], [.val false (.one .bool) true], fun a => laws_eqPdu a.1 a.2⟩
def a_laws_eqPdu : List (Nat × LoopAnn) := []
theorem e_laws_eqPdu : fnDen ⟨tis, fns_49⟩ a_laws_eqPdu Try.f260 (codeOf Try.f260) [.val true cPdu false, .val true cPdu false] [.val false (.one .bool) true] = fun a => laws_eqPdu a.1 a.2 := by kernel_rfl
theorem m_laws_eqPdu : Meets Try.prog 260 F_laws_eqPdu := by
  have h := meets_of (ann := a_laws_eqPdu) (ps := [.val true cPdu false, .val true cPdu false]) (rs := [.val false (.one .bool) true]) g_49 mixed Try.func260 (by kernel_rfl) (by kernel_rfl : Try.f260.body = some (codeOf Try.f260))
  rw [e_laws_eqPdu] at h
  exact h
noncomputable def fns_260 : List (FuncId × Fn) := (260, F_laws_eqPdu) :: fns_49
theorem g_260 : Good Try.prog ⟨tis, fns_260⟩ := g_49.cons m_laws_eqPdu
noncomputable def laws_eqJob (a0 : Job) (b1 : Job) : Option Bool :=
  cond (a0.1 != b1.1)
    (some false)
    ((laws_eqByteS a0.2.1 b1.2.1).bind fun t14 =>
    cond (!t14)
      (some false)
      (cond (a0.2.2.1 != b1.2.2.1)
        (some false)
        ((laws_eqPdu (a0.2.2.2.1, a0.2.2.2.2.1, a0.2.2.2.2.2.1, a0.2.2.2.2.2.2.1, a0.2.2.2.2.2.2.2.1) (b1.2.2.2.1, b1.2.2.2.2.1, b1.2.2.2.2.2.1, b1.2.2.2.2.2.2.1, b1.2.2.2.2.2.2.2.1)).bind fun t25 =>
        cond (!t25)
          (some false)
          ((laws_eqBridge (a0.2.2.2.2.2.2.2.2.1, a0.2.2.2.2.2.2.2.2.2.1, a0.2.2.2.2.2.2.2.2.2.2.1, a0.2.2.2.2.2.2.2.2.2.2.2.1, a0.2.2.2.2.2.2.2.2.2.2.2.2.1, a0.2.2.2.2.2.2.2.2.2.2.2.2.2.1, a0.2.2.2.2.2.2.2.2.2.2.2.2.2.2.1, a0.2.2.2.2.2.2.2.2.2.2.2.2.2.2.2.1, a0.2.2.2.2.2.2.2.2.2.2.2.2.2.2.2.2.1, a0.2.2.2.2.2.2.2.2.2.2.2.2.2.2.2.2.2.1, a0.2.2.2.2.2.2.2.2.2.2.2.2.2.2.2.2.2.2.1) (b1.2.2.2.2.2.2.2.2.1, b1.2.2.2.2.2.2.2.2.2.1, b1.2.2.2.2.2.2.2.2.2.2.1, b1.2.2.2.2.2.2.2.2.2.2.2.1, b1.2.2.2.2.2.2.2.2.2.2.2.2.1, b1.2.2.2.2.2.2.2.2.2.2.2.2.2.1, b1.2.2.2.2.2.2.2.2.2.2.2.2.2.2.1, b1.2.2.2.2.2.2.2.2.2.2.2.2.2.2.2.1, b1.2.2.2.2.2.2.2.2.2.2.2.2.2.2.2.2.1, b1.2.2.2.2.2.2.2.2.2.2.2.2.2.2.2.2.2.1, b1.2.2.2.2.2.2.2.2.2.2.2.2.2.2.2.2.2.2.1)).bind fun t31 =>
          cond (!t31)
            (some false)
            (cond (a0.2.2.2.2.2.2.2.2.2.2.2.2.2.2.2.2.2.2.2.1 != b1.2.2.2.2.2.2.2.2.2.2.2.2.2.2.2.2.2.2.2.1)
              (some false)
              (cond (a0.2.2.2.2.2.2.2.2.2.2.2.2.2.2.2.2.2.2.2.2 != b1.2.2.2.2.2.2.2.2.2.2.2.2.2.2.2.2.2.2.2.2) (some false) (some true)))))))
noncomputable def F_laws_eqJob : Fn := ⟨[.val true cJob false, .val true cJob false], [.val false (.one .bool) true], fun a => laws_eqJob a.1 a.2⟩
def a_laws_eqJob : List (Nat × LoopAnn) := []
theorem e_laws_eqJob : fnDen ⟨tis, fns_260⟩ a_laws_eqJob Try.f196 (codeOf Try.f196) [.val true cJob false, .val true cJob false] [.val false (.one .bool) true] = fun a => laws_eqJob a.1 a.2 := by kernel_rfl
theorem m_laws_eqJob : Meets Try.prog 196 F_laws_eqJob := by
  have h := meets_of (ann := a_laws_eqJob) (ps := [.val true cJob false, .val true cJob false]) (rs := [.val false (.one .bool) true]) g_260 mixed Try.func196 (by kernel_rfl) (by kernel_rfl : Try.f196.body = some (codeOf Try.f196))
  rw [e_laws_eqJob] at h
  exact h
noncomputable def fns_196 : List (FuncId × Fn) := (196, F_laws_eqJob) :: fns_260
theorem g_196 : Good Try.prog ⟨tis, fns_196⟩ := g_260.cons m_laws_eqJob
noncomputable def laws_eqJobS_l0 (a0 : List Job) (b1 : List Job) (i5 : Int) : Option (Int ⊕ (Unit ⊕ Bool)) :=
  cond (decide (i5 < (a0.length : Int)))
    ((at? a0 i5).bind fun x19 =>
    (at? b1 i5).bind fun x23 =>
    (laws_eqJob x19 x23).bind fun t25 =>
    cond (!t25) (some (.inr (.inr false))) (some (.inl (w64 (i5 + 1)))))
    (some (.inr (.inl ())))
noncomputable def laws_eqJobS (a0 : List Job) (b1 : List Job) : Option Bool :=
  cond ((a0.length : Int) != (b1.length : Int))
    (some false)
    ((loop (fun z => laws_eqJobS_l0 a0 b1 z) 0).bind (Sum.elim (fun d =>
      some true) (fun r => some r)))
noncomputable def F_laws_eqJobS : Fn := ⟨[.val false (.one (.sl cJob)) false, .val false (.one (.sl cJob)) false], [.val false (.one .bool) true], fun a => laws_eqJobS a.1 a.2⟩
def a_laws_eqJobS : List (Nat × LoopAnn) := [(0, ⟨⟨[(5, false, [.dat (.int .i64)])], []⟩,
    ⟨[], []⟩, some ⟨[(4, false, [.dat .bool])], []⟩⟩)]
theorem e_laws_eqJobS : fnDen ⟨tis, fns_196⟩ a_laws_eqJobS Try.f120 (codeOf Try.f120) [.val false (.one (.sl cJob)) false, .val false (.one (.sl cJob)) false] [.val false (.one .bool) true] = fun a => laws_eqJobS a.1 a.2 := by kernel_rfl
theorem m_laws_eqJobS : Meets Try.prog 120 F_laws_eqJobS := by
  have h := meets_of (ann := a_laws_eqJobS) (ps := [.val false (.one (.sl cJob)) false, .val false (.one (.sl cJob)) false]) (rs := [.val false (.one .bool) true]) g_196 mixed Try.func120 (by kernel_rfl) (by kernel_rfl : Try.f120.body = some (codeOf Try.f120))
  rw [e_laws_eqJobS] at h
  exact h
noncomputable def fns_120 : List (FuncId × Fn) := (120, F_laws_eqJobS) :: fns_196
theorem g_120 : Good Try.prog ⟨tis, fns_120⟩ := g_196.cons m_laws_eqJobS
noncomputable def laws_eqAgent (a0 : Agent) (b1 : Agent) : Option Bool :=
  (laws_eqBridge (a0.1, a0.2.1, a0.2.2.1, a0.2.2.2.1, a0.2.2.2.2.1, a0.2.2.2.2.2.1, a0.2.2.2.2.2.2.1, a0.2.2.2.2.2.2.2.1, a0.2.2.2.2.2.2.2.2.1, a0.2.2.2.2.2.2.2.2.2.1, a0.2.2.2.2.2.2.2.2.2.2.1) (b1.1, b1.2.1, b1.2.2.1, b1.2.2.2.1, b1.2.2.2.2.1, b1.2.2.2.2.2.1, b1.2.2.2.2.2.2.1, b1.2.2.2.2.2.2.2.1, b1.2.2.2.2.2.2.2.2.1, b1.2.2.2.2.2.2.2.2.2.1, b1.2.2.2.2.2.2.2.2.2.2.1)).bind fun t9 =>
  cond (!t9)
    (some false)
    (cond (!(a0.2.2.2.2.2.2.2.2.2.2.2.1 == b1.2.2.2.2.2.2.2.2.2.2.2.1))
      (some false)
      ((laws_eqJobS a0.2.2.2.2.2.2.2.2.2.2.2.2.1 b1.2.2.2.2.2.2.2.2.2.2.2.2.1).bind fun t20 =>
      cond (!t20)
        (some false)
        (cond (a0.2.2.2.2.2.2.2.2.2.2.2.2.2.1 != b1.2.2.2.2.2.2.2.2.2.2.2.2.2.1)
          (some false)
          (cond (a0.2.2.2.2.2.2.2.2.2.2.2.2.2.2 != b1.2.2.2.2.2.2.2.2.2.2.2.2.2.2) (some false) (some true)))))
noncomputable def F_laws_eqAgent : Fn := ⟨[.val true cAgent false, .val true cAgent false], [.val false (.one .bool) true], fun a => laws_eqAgent a.1 a.2⟩
def a_laws_eqAgent : List (Nat × LoopAnn) := []
theorem e_laws_eqAgent : fnDen ⟨tis, fns_120⟩ a_laws_eqAgent Try.f48 (codeOf Try.f48) [.val true cAgent false, .val true cAgent false] [.val false (.one .bool) true] = fun a => laws_eqAgent a.1 a.2 := by kernel_rfl
theorem m_laws_eqAgent : Meets Try.prog 48 F_laws_eqAgent := by
  have h := meets_of (ann := a_laws_eqAgent) (ps := [.val true cAgent false, .val true cAgent false]) (rs := [.val false (.one .bool) true]) g_120 mixed Try.func48 (by kernel_rfl) (by kernel_rfl : Try.f48.body = some (codeOf Try.f48))
  rw [e_laws_eqAgent] at h
  exact h
noncomputable def fns_48 : List (FuncId × Fn) := (48, F_laws_eqAgent) :: fns_120
theorem g_48 : Good Try.prog ⟨tis, fns_48⟩ := g_120.cons m_laws_eqAgent
noncomputable def laws_FnExactAgentOk (aA0 : Agent) : Option Bool :=
  (laws_szAgent aA0 1048576).bind fun t9 =>
  cond (decide (t9 < 0))
    (some true)
    ((laws_toAgent aA0).bind fun t13 =>
    (spec_AgentOk t13).bind fun t14 =>
    (laws_toAgent aA0).bind fun t16 =>
    (impl_AgentOk t16).bind fun t18 =>
    cond (!(t18 == t14))
      (some false)
      ((laws_toAgent aA0).bind fun t24 =>
      (laws_eqAgent t16 t24).bind fun t25 =>
      cond (!t25) (some false) (some true)))
noncomputable def F_laws_FnExactAgentOk : Fn := ⟨[.val true cAgent false], [.val false (.one .bool) true], fun a => laws_FnExactAgentOk a⟩
def a_laws_FnExactAgentOk : List (Nat × LoopAnn) := []
theorem e_laws_FnExactAgentOk : fnDen ⟨tis, fns_48⟩ a_laws_FnExactAgentOk Try.f8 (codeOf Try.f8) [.val true cAgent false] [.val false (.one .bool) true] = fun a => laws_FnExactAgentOk a := by kernel_rfl
theorem m_laws_FnExactAgentOk : Meets Try.prog 8 F_laws_FnExactAgentOk := by
  have h := meets_of (ann := a_laws_FnExactAgentOk) (ps := [.val true cAgent false]) (rs := [.val false (.one .bool) true]) g_48 mixed Try.func8 (by kernel_rfl) (by kernel_rfl : Try.f8.body = some (codeOf Try.f8))
  rw [e_laws_FnExactAgentOk] at h
  exact h
noncomputable def fns_8 : List (FuncId × Fn) := (8, F_laws_FnExactAgentOk) :: fns_48
theorem g_8 : Good Try.prog ⟨tis, fns_8⟩ := g_48.cons m_laws_FnExactAgentOk
end Go.V.W
