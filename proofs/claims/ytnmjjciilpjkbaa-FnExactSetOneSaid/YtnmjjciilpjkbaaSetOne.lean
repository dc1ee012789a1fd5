/- The law FnExactSetOne: part of the proof that for every input it returns true. No condition. -/
import Derived.Test.YtnmjjciilpjkbaaV4
import Derived.Test.YtnmjjciilpjkbaaProg
import Derived.Test.YtnmjjciilpjkbaaChecked
import Derived.KernelRfl
namespace Go.V.W
open Go.Proofs
set_option linter.unusedVariables false
@[reducible] def cVec : Cs := .cons (.int .i64) (.cons (.int .i64) (.cons (.int .i64) (.cons (.int .i64) (.one (.int .i64)))))
@[reducible] def cPt : Cs := .cons .bool (.cons (.int .i64) (.cons .bool (.cons (.int .i64) (.cons (.int .i64) (.cons (.int .i64) (.cons (.int .i64) (.one (.int .i64))))))))
@[reducible] def cFent : Cs := .cons (.int .i64) (.cons (.int .i64) (.cons (.int .i64) (.cons (.int .i64) (.one .bool))))
@[reducible] def cVrow : Cs := .cons (.int .i64) (.cons (.int .i64) (.one (.int .i64)))
@[reducible] def cVtab : Cs := .cons (.sl cVrow) (.one (.sl (.one (.int .i64))))
@[reducible] def cBridge : Cs := .cons (.int .i64) (.cons .str (.cons (.sl cPt) (.cons (.sl cFent) (.cons (.sl cVrow) (.cons (.sl (.one (.int .i64))) (.cons (.int .i64) (.cons (.int .i64) (.cons (.int .i64) (.cons (.int .i64) (.one (.int .i64)))))))))))
@[reducible] def cVal : Cs := .cons (.int .i64) (.cons (.int .i64) (.cons .str (.one (.sl (.one (.int .i64))))))
@[reducible] def cBind : Cs := .cons (.sl (.one (.int .i64))) (.cons (.int .i64) (.cons (.int .i64) (.cons .str (.one (.sl (.one (.int .i64)))))))
abbrev Vec : Type := Int × Int × Int × Int × Int
abbrev Pt : Type := Bool × Int × Bool × Int × Int × Int × Int × Int
abbrev Fent : Type := Int × Int × Int × Int × Bool
abbrev Vrow : Type := Int × Int × Int
abbrev Vtab : Type := List Vrow × List Int
abbrev Bridge : Type := Int × List UInt8 × List Pt × List Fent × List Vrow × List Int × Int × Int × Int × Int × Int
abbrev Val : Type := Int × Int × List UInt8 × List Int
abbrev Bind : Type := List Int × Int × Int × List UInt8 × List Int
def tis : List (Nat × TInfo) := [(2, ⟨false, .one (.int .i64), [], 0⟩),
  (3, ⟨false, .one (.int .i64), [], 0⟩),
  (4, ⟨false, .one .bool, [], 0⟩),
  (5, ⟨false, .one (.int .u8), [], 0⟩),
  (6, ⟨false, .one (.int .u8), [], 0⟩),
  (9, ⟨false, .one .str, [], 0⟩),
  (10, ⟨false, .one .str, [], 0⟩),
  (11, ⟨false, .one .str, [], 0⟩),
  (12, ⟨false, .one (.int .u64), [], 0⟩),
  (21, ⟨false, .one (.int .i32), [], 0⟩),
  (22, ⟨false, .one (.sl cPt), [], 172⟩),
  (23, ⟨false, .one (.sl cFent), [], 174⟩),
  (24, ⟨false, .one (.sl cVrow), [], 237⟩),
  (25, ⟨false, .one (.sl (.one (.int .i64))), [], 3⟩),
  (26, ⟨true, cVtab, [(24, 0), (25, 1)], 0⟩),
  (27, ⟨true, cVtab, [(24, 0), (25, 1)], 0⟩),
  (28, ⟨true, cBridge, [(3, 0), (9, 1), (22, 2), (23, 3), (27, 4), (3, 6), (3, 7), (3, 8), (3, 9), (3, 10)], 0⟩),
  (29, ⟨true, cBridge, [(3, 0), (9, 1), (22, 2), (23, 3), (27, 4), (3, 6), (3, 7), (3, 8), (3, 9), (3, 10)], 0⟩),
  (32, ⟨false, .one (.sl cPt), [], 125⟩),
  (33, ⟨false, .one (.sl cFent), [], 127⟩),
  (34, ⟨false, .one (.sl cVrow), [], 167⟩),
  (35, ⟨true, cVtab, [(34, 0), (25, 1)], 0⟩),
  (36, ⟨true, cVtab, [(34, 0), (25, 1)], 0⟩),
  (37, ⟨true, cBridge, [(3, 0), (9, 1), (32, 2), (33, 3), (36, 4), (3, 6), (3, 7), (3, 8), (3, 9), (3, 10)], 0⟩),
  (38, ⟨true, cBridge, [(3, 0), (9, 1), (32, 2), (33, 3), (36, 4), (3, 6), (3, 7), (3, 8), (3, 9), (3, 10)], 0⟩),
  (44, ⟨false, .one (.sl (.one (.int .u8))), [], 5⟩),
  (50, ⟨true, cVal, [(3, 0), (3, 1), (9, 2), (25, 3)], 0⟩),
  (51, ⟨true, cVal, [(3, 0), (3, 1), (9, 2), (25, 3)], 0⟩),
  (52, ⟨true, cBind, [(25, 0), (51, 1)], 0⟩),
  (53, ⟨true, cBind, [(25, 0), (51, 1)], 0⟩),
  (55, ⟨false, .one (.sl cBridge), [], 29⟩),
  (56, ⟨false, .one (.sl (.cons (.int .i64) (.cons (.int .i64) (.cons (.int .i64) (.one (.int .i64)))))), [], 206⟩),
  (57, ⟨false, .one (.sl (.cons (.int .i64) (.cons .bool (.cons (.int .i64) (.cons (.int .i64) (.cons (.int .i64) (.cons (.int .i64) (.one (.int .i64))))))))), [], 211⟩),
  (58, ⟨true, .cons (.sl cBridge) (.cons (.sl (.cons (.int .i64) (.cons (.int .i64) (.cons (.int .i64) (.one (.int .i64)))))) (.one (.sl (.cons (.int .i64) (.cons .bool (.cons (.int .i64) (.cons (.int .i64) (.cons (.int .i64) (.cons (.int .i64) (.one (.int .i64))))))))))), [(55, 0), (56, 1), (57, 2)], 0⟩),
  (59, ⟨true, .cons (.sl cBridge) (.cons (.sl (.cons (.int .i64) (.cons (.int .i64) (.cons (.int .i64) (.one (.int .i64)))))) (.one (.sl (.cons (.int .i64) (.cons .bool (.cons (.int .i64) (.cons (.int .i64) (.cons (.int .i64) (.cons (.int .i64) (.one (.int .i64))))))))))), [(55, 0), (56, 1), (57, 2)], 0⟩),
  (62, ⟨false, .one (.sl cBridge), [], 38⟩),
  (63, ⟨false, .one (.sl (.cons (.int .i64) (.cons (.int .i64) (.cons (.int .i64) (.one (.int .i64)))))), [], 204⟩),
  (64, ⟨false, .one (.sl (.cons (.int .i64) (.cons .bool (.cons (.int .i64) (.cons (.int .i64) (.cons (.int .i64) (.cons (.int .i64) (.one (.int .i64))))))))), [], 208⟩),
  (65, ⟨true, .cons (.sl cBridge) (.cons (.sl (.cons (.int .i64) (.cons (.int .i64) (.cons (.int .i64) (.one (.int .i64)))))) (.one (.sl (.cons (.int .i64) (.cons .bool (.cons (.int .i64) (.cons (.int .i64) (.cons (.int .i64) (.cons (.int .i64) (.one (.int .i64))))))))))), [(62, 0), (63, 1), (64, 2)], 0⟩),
  (66, ⟨true, .cons (.sl cBridge) (.cons (.sl (.cons (.int .i64) (.cons (.int .i64) (.cons (.int .i64) (.one (.int .i64)))))) (.one (.sl (.cons (.int .i64) (.cons .bool (.cons (.int .i64) (.cons (.int .i64) (.cons (.int .i64) (.cons (.int .i64) (.one (.int .i64))))))))))), [(62, 0), (63, 1), (64, 2)], 0⟩),
  (75, ⟨false, .one (.sl cBind), [], 53⟩),
  (78, ⟨false, .one (.sl (.cons (.int .i64) (.cons (.sl (.one (.int .u8))) (.cons (.int .i64) (.cons (.int .i64) (.cons (.int .i64) (.cons (.int .i64) (.cons (.int .i64) (.cons (.sl cBind) (.cons (.int .i64) (.cons .str (.cons (.sl cPt) (.cons (.sl cFent) (.cons (.sl cVrow) (.cons (.sl (.one (.int .i64))) (.cons (.int .i64) (.cons (.int .i64) (.cons (.int .i64) (.cons (.int .i64) (.cons (.int .i64) (.cons (.int .i64) (.one (.int .i64))))))))))))))))))))))), [], 227⟩),
  (79, ⟨true, .cons (.int .i64) (.cons .str (.cons (.sl cPt) (.cons (.sl cFent) (.cons (.sl cVrow) (.cons (.sl (.one (.int .i64))) (.cons (.int .i64) (.cons (.int .i64) (.cons (.int .i64) (.cons (.int .i64) (.cons (.int .i64) (.cons .str (.cons (.sl (.cons (.int .i64) (.cons (.sl (.one (.int .u8))) (.cons (.int .i64) (.cons (.int .i64) (.cons (.int .i64) (.cons (.int .i64) (.cons (.int .i64) (.cons (.sl cBind) (.cons (.int .i64) (.cons .str (.cons (.sl cPt) (.cons (.sl cFent) (.cons (.sl cVrow) (.cons (.sl (.one (.int .i64))) (.cons (.int .i64) (.cons (.int .i64) (.cons (.int .i64) (.cons (.int .i64) (.cons (.int .i64) (.cons (.int .i64) (.one (.int .i64))))))))))))))))))))))) (.cons (.int .i64) (.one (.int .i64))))))))))))))), [(29, 0), (9, 11), (78, 12), (3, 13), (3, 14)], 0⟩),
  (80, ⟨true, .cons (.int .i64) (.cons .str (.cons (.sl cPt) (.cons (.sl cFent) (.cons (.sl cVrow) (.cons (.sl (.one (.int .i64))) (.cons (.int .i64) (.cons (.int .i64) (.cons (.int .i64) (.cons (.int .i64) (.cons (.int .i64) (.cons .str (.cons (.sl (.cons (.int .i64) (.cons (.sl (.one (.int .u8))) (.cons (.int .i64) (.cons (.int .i64) (.cons (.int .i64) (.cons (.int .i64) (.cons (.int .i64) (.cons (.sl cBind) (.cons (.int .i64) (.cons .str (.cons (.sl cPt) (.cons (.sl cFent) (.cons (.sl cVrow) (.cons (.sl (.one (.int .i64))) (.cons (.int .i64) (.cons (.int .i64) (.cons (.int .i64) (.cons (.int .i64) (.cons (.int .i64) (.cons (.int .i64) (.one (.int .i64))))))))))))))))))))))) (.cons (.int .i64) (.one (.int .i64))))))))))))))), [(29, 0), (9, 11), (78, 12), (3, 13), (3, 14)], 0⟩),
  (83, ⟨false, .one (.sl (.cons (.int .i64) (.cons (.sl (.one (.int .u8))) (.cons (.int .i64) (.cons (.int .i64) (.cons (.int .i64) (.cons (.int .i64) (.cons (.int .i64) (.cons (.sl cBind) (.cons (.int .i64) (.cons .str (.cons (.sl cPt) (.cons (.sl cFent) (.cons (.sl cVrow) (.cons (.sl (.one (.int .i64))) (.cons (.int .i64) (.cons (.int .i64) (.cons (.int .i64) (.cons (.int .i64) (.cons (.int .i64) (.cons (.int .i64) (.one (.int .i64))))))))))))))))))))))), [], 150⟩),
  (84, ⟨true, .cons (.int .i64) (.cons .str (.cons (.sl cPt) (.cons (.sl cFent) (.cons (.sl cVrow) (.cons (.sl (.one (.int .i64))) (.cons (.int .i64) (.cons (.int .i64) (.cons (.int .i64) (.cons (.int .i64) (.cons (.int .i64) (.cons .str (.cons (.sl (.cons (.int .i64) (.cons (.sl (.one (.int .u8))) (.cons (.int .i64) (.cons (.int .i64) (.cons (.int .i64) (.cons (.int .i64) (.cons (.int .i64) (.cons (.sl cBind) (.cons (.int .i64) (.cons .str (.cons (.sl cPt) (.cons (.sl cFent) (.cons (.sl cVrow) (.cons (.sl (.one (.int .i64))) (.cons (.int .i64) (.cons (.int .i64) (.cons (.int .i64) (.cons (.int .i64) (.cons (.int .i64) (.cons (.int .i64) (.one (.int .i64))))))))))))))))))))))) (.cons (.int .i64) (.one (.int .i64))))))))))))))), [(38, 0), (9, 11), (83, 12), (3, 13), (3, 14)], 0⟩),
  (85, ⟨true, .cons (.int .i64) (.cons .str (.cons (.sl cPt) (.cons (.sl cFent) (.cons (.sl cVrow) (.cons (.sl (.one (.int .i64))) (.cons (.int .i64) (.cons (.int .i64) (.cons (.int .i64) (.cons (.int .i64) (.cons (.int .i64) (.cons .str (.cons (.sl (.cons (.int .i64) (.cons (.sl (.one (.int .u8))) (.cons (.int .i64) (.cons (.int .i64) (.cons (.int .i64) (.cons (.int .i64) (.cons (.int .i64) (.cons (.sl cBind) (.cons (.int .i64) (.cons .str (.cons (.sl cPt) (.cons (.sl cFent) (.cons (.sl cVrow) (.cons (.sl (.one (.int .i64))) (.cons (.int .i64) (.cons (.int .i64) (.cons (.int .i64) (.cons (.int .i64) (.cons (.int .i64) (.cons (.int .i64) (.one (.int .i64))))))))))))))))))))))) (.cons (.int .i64) (.one (.int .i64))))))))))))))), [(38, 0), (9, 11), (83, 12), (3, 13), (3, 14)], 0⟩),
  (96, ⟨true, cVal, [(3, 0), (3, 1), (9, 2), (25, 3)], 0⟩),
  (97, ⟨true, cBind, [(25, 0), (96, 1)], 0⟩),
  (98, ⟨true, cBind, [(25, 0), (96, 1)], 0⟩),
  (122, ⟨true, cVec, [(3, 0), (3, 1), (3, 2), (3, 3), (3, 4)], 0⟩),
  (123, ⟨true, cVec, [(3, 0), (3, 1), (3, 2), (3, 3), (3, 4)], 0⟩),
  (124, ⟨true, cPt, [(4, 0), (3, 1), (4, 2), (123, 3)], 0⟩),
  (125, ⟨true, cPt, [(4, 0), (3, 1), (4, 2), (123, 3)], 0⟩),
  (126, ⟨true, cFent, [(3, 0), (3, 1), (3, 2), (3, 3), (4, 4)], 0⟩),
  (127, ⟨true, cFent, [(3, 0), (3, 1), (3, 2), (3, 3), (4, 4)], 0⟩),
  (147, ⟨true, .cons (.int .i64) (.cons (.int .i64) (.cons (.int .i64) (.cons (.int .i64) (.one (.sl cBind))))), [(3, 0), (3, 1), (3, 2), (3, 3), (75, 4)], 0⟩),
  (148, ⟨true, .cons (.int .i64) (.cons (.int .i64) (.cons (.int .i64) (.cons (.int .i64) (.one (.sl cBind))))), [(3, 0), (3, 1), (3, 2), (3, 3), (75, 4)], 0⟩),
  (149, ⟨true, .cons (.int .i64) (.cons (.sl (.one (.int .u8))) (.cons (.int .i64) (.cons (.int .i64) (.cons (.int .i64) (.cons (.int .i64) (.cons (.int .i64) (.cons (.sl cBind) (.cons (.int .i64) (.cons .str (.cons (.sl cPt) (.cons (.sl cFent) (.cons (.sl cVrow) (.cons (.sl (.one (.int .i64))) (.cons (.int .i64) (.cons (.int .i64) (.cons (.int .i64) (.cons (.int .i64) (.cons (.int .i64) (.cons (.int .i64) (.one (.int .i64))))))))))))))))))))), [(3, 0), (44, 1), (3, 2), (148, 3), (38, 8), (3, 19), (3, 20)], 0⟩),
  (150, ⟨true, .cons (.int .i64) (.cons (.sl (.one (.int .u8))) (.cons (.int .i64) (.cons (.int .i64) (.cons (.int .i64) (.cons (.int .i64) (.cons (.int .i64) (.cons (.sl cBind) (.cons (.int .i64) (.cons .str (.cons (.sl cPt) (.cons (.sl cFent) (.cons (.sl cVrow) (.cons (.sl (.one (.int .i64))) (.cons (.int .i64) (.cons (.int .i64) (.cons (.int .i64) (.cons (.int .i64) (.cons (.int .i64) (.cons (.int .i64) (.one (.int .i64))))))))))))))))))))), [(3, 0), (44, 1), (3, 2), (148, 3), (38, 8), (3, 19), (3, 20)], 0⟩),
  (166, ⟨true, cVrow, [(3, 0), (3, 1), (3, 2)], 0⟩),
  (167, ⟨true, cVrow, [(3, 0), (3, 1), (3, 2)], 0⟩),
  (170, ⟨true, cVec, [(3, 0), (3, 1), (3, 2), (3, 3), (3, 4)], 0⟩),
  (171, ⟨true, cPt, [(4, 0), (3, 1), (4, 2), (170, 3)], 0⟩),
  (172, ⟨true, cPt, [(4, 0), (3, 1), (4, 2), (170, 3)], 0⟩),
  (174, ⟨true, cFent, [(3, 0), (3, 1), (3, 2), (3, 3), (4, 4)], 0⟩),
  (180, ⟨true, .cons (.sl (.one (.int .u8))) (.cons (.int .i64) (.one (.int .i64))), [(44, 0), (3, 1), (3, 2)], 0⟩),
  (181, ⟨true, .cons (.sl (.one (.int .u8))) (.cons (.int .i64) (.one (.int .i64))), [(44, 0), (3, 1), (3, 2)], 0⟩),
  (184, ⟨false, .one (.sl (.one .str)), [], 9⟩),
  (203, ⟨true, .cons (.int .i64) (.cons (.int .i64) (.cons (.int .i64) (.one (.int .i64)))), [(3, 0), (3, 1), (3, 2), (3, 3)], 0⟩),
  (204, ⟨true, .cons (.int .i64) (.cons (.int .i64) (.cons (.int .i64) (.one (.int .i64)))), [(3, 0), (3, 1), (3, 2), (3, 3)], 0⟩),
  (206, ⟨true, .cons (.int .i64) (.cons (.int .i64) (.cons (.int .i64) (.one (.int .i64)))), [(3, 0), (3, 1), (3, 2), (3, 3)], 0⟩),
  (207, ⟨true, .cons (.int .i64) (.cons .bool (.cons (.int .i64) (.cons (.int .i64) (.cons (.int .i64) (.cons (.int .i64) (.one (.int .i64))))))), [(3, 0), (4, 1), (123, 2)], 0⟩),
  (208, ⟨true, .cons (.int .i64) (.cons .bool (.cons (.int .i64) (.cons (.int .i64) (.cons (.int .i64) (.cons (.int .i64) (.one (.int .i64))))))), [(3, 0), (4, 1), (123, 2)], 0⟩),
  (210, ⟨true, .cons (.int .i64) (.cons .bool (.cons (.int .i64) (.cons (.int .i64) (.cons (.int .i64) (.cons (.int .i64) (.one (.int .i64))))))), [(3, 0), (4, 1), (170, 2)], 0⟩),
  (211, ⟨true, .cons (.int .i64) (.cons .bool (.cons (.int .i64) (.cons (.int .i64) (.cons (.int .i64) (.cons (.int .i64) (.one (.int .i64))))))), [(3, 0), (4, 1), (170, 2)], 0⟩),
  (217, ⟨false, .one (.sl (.one .bool)), [], 4⟩),
  (223, ⟨false, .one (.sl cBind), [], 98⟩),
  (224, ⟨true, .cons (.int .i64) (.cons (.int .i64) (.cons (.int .i64) (.cons (.int .i64) (.one (.sl cBind))))), [(3, 0), (3, 1), (3, 2), (3, 3), (223, 4)], 0⟩),
  (225, ⟨true, .cons (.int .i64) (.cons (.int .i64) (.cons (.int .i64) (.cons (.int .i64) (.one (.sl cBind))))), [(3, 0), (3, 1), (3, 2), (3, 3), (223, 4)], 0⟩),
  (226, ⟨true, .cons (.int .i64) (.cons (.sl (.one (.int .u8))) (.cons (.int .i64) (.cons (.int .i64) (.cons (.int .i64) (.cons (.int .i64) (.cons (.int .i64) (.cons (.sl cBind) (.cons (.int .i64) (.cons .str (.cons (.sl cPt) (.cons (.sl cFent) (.cons (.sl cVrow) (.cons (.sl (.one (.int .i64))) (.cons (.int .i64) (.cons (.int .i64) (.cons (.int .i64) (.cons (.int .i64) (.cons (.int .i64) (.cons (.int .i64) (.one (.int .i64))))))))))))))))))))), [(3, 0), (44, 1), (3, 2), (225, 3), (29, 8), (3, 19), (3, 20)], 0⟩),
  (227, ⟨true, .cons (.int .i64) (.cons (.sl (.one (.int .u8))) (.cons (.int .i64) (.cons (.int .i64) (.cons (.int .i64) (.cons (.int .i64) (.cons (.int .i64) (.cons (.sl cBind) (.cons (.int .i64) (.cons .str (.cons (.sl cPt) (.cons (.sl cFent) (.cons (.sl cVrow) (.cons (.sl (.one (.int .i64))) (.cons (.int .i64) (.cons (.int .i64) (.cons (.int .i64) (.cons (.int .i64) (.cons (.int .i64) (.cons (.int .i64) (.one (.int .i64))))))))))))))))))))), [(3, 0), (44, 1), (3, 2), (225, 3), (29, 8), (3, 19), (3, 20)], 0⟩),
  (237, ⟨true, cVrow, [(3, 0), (3, 1), (3, 2)], 0⟩),
  (265, ⟨false, .one (.int .u64), [], 0⟩),
  (288, ⟨false, .one (.int .u32), [], 0⟩),
  (289, ⟨false, .one (.int .u8), [], 0⟩),
  (290, ⟨false, .one (.int .u8), [], 0⟩),
  (293, ⟨false, .one (.int .i32), [], 0⟩),
  (294, ⟨false, .one (.int .i32), [], 0⟩)]
theorem tisT : Tis Try.prog tis := Tis.of_all (by kernel_rfl)
theorem tisE : Eqs Try.prog tis := Eqs.of_all (by kernel_rfl)
theorem tisD : Deep Try.prog tis := Deep.of_all (by kernel_rfl)
theorem mixed : Try.prog.follows .mixedOrders = true := by kernel_rfl
def codeOf (fn : Func) : Code := match fn.body with | some c => c | none => .skip
theorem g_0 : Good Try.prog ⟨tis, [], [], false⟩ := ⟨tisT, tisE, (fun f F h => by cases h), (fun f M h => by cases h), (fun h => by cases h)⟩
noncomputable def laws_szPtS (a0 : List Pt) (left1 : Int) : Option Int :=
  let left1_1 := w64 (left1 - (a0.length : Int))
  cond (decide (left1_1 < 0)) (some (-1)) (some left1_1)
noncomputable def F_laws_szPtS : Fn := ⟨[.val false (.one (.sl cPt)) false, .val false (.one (.int .i64)) false], [.val false (.one (.int .i64)) true], fun a => laws_szPtS a.1 a.2⟩
def a_laws_szPtS : List (Nat × LoopAnn) := []
theorem e_laws_szPtS : fnDen ⟨tis, [], [], false⟩ a_laws_szPtS Try.f64 (codeOf Try.f64) [.val false (.one (.sl cPt)) false, .val false (.one (.int .i64)) false] [.val false (.one (.int .i64)) true] = fun a => laws_szPtS a.1 a.2 := by kernel_rfl
theorem m_laws_szPtS : Meets Try.prog 64 F_laws_szPtS := by
  have h := meets_of (ann := a_laws_szPtS) (ps := [.val false (.one (.sl cPt)) false, .val false (.one (.int .i64)) false]) (rs := [.val false (.one (.int .i64)) true]) g_0 mixed Try.func64 (by kernel_rfl) (by kernel_rfl : Try.f64.body = some (codeOf Try.f64))
  rw [e_laws_szPtS] at h
  exact h
noncomputable def fns_64 : List (FuncId × Fn) := (64, F_laws_szPtS) :: []
theorem g_64 : Good Try.prog ⟨tis, fns_64, [], false⟩ := g_0.cons m_laws_szPtS
noncomputable def laws_szFentS (a0 : List Fent) (left1 : Int) : Option Int :=
  let left1_1 := w64 (left1 - (a0.length : Int))
  cond (decide (left1_1 < 0)) (some (-1)) (some left1_1)
noncomputable def F_laws_szFentS : Fn := ⟨[.val false (.one (.sl cFent)) false, .val false (.one (.int .i64)) false], [.val false (.one (.int .i64)) true], fun a => laws_szFentS a.1 a.2⟩
def a_laws_szFentS : List (Nat × LoopAnn) := []
theorem e_laws_szFentS : fnDen ⟨tis, fns_64, [], false⟩ a_laws_szFentS Try.f65 (codeOf Try.f65) [.val false (.one (.sl cFent)) false, .val false (.one (.int .i64)) false] [.val false (.one (.int .i64)) true] = fun a => laws_szFentS a.1 a.2 := by kernel_rfl
theorem m_laws_szFentS : Meets Try.prog 65 F_laws_szFentS := by
  have h := meets_of (ann := a_laws_szFentS) (ps := [.val false (.one (.sl cFent)) false, .val false (.one (.int .i64)) false]) (rs := [.val false (.one (.int .i64)) true]) g_64 mixed Try.func65 (by kernel_rfl) (by kernel_rfl : Try.f65.body = some (codeOf Try.f65))
  rw [e_laws_szFentS] at h
  exact h
noncomputable def fns_65 : List (FuncId × Fn) := (65, F_laws_szFentS) :: fns_64
theorem g_65 : Good Try.prog ⟨tis, fns_65, [], false⟩ := g_64.cons m_laws_szFentS
noncomputable def laws_szIntS (a0 : List Int) (left1 : Int) : Option Int :=
  let left1_1 := w64 (left1 - (a0.length : Int))
  cond (decide (left1_1 < 0)) (some (-1)) (some left1_1)
noncomputable def F_laws_szIntS : Fn := ⟨[.val false (.one (.sl (.one (.int .i64)))) false, .val false (.one (.int .i64)) false], [.val false (.one (.int .i64)) true], fun a => laws_szIntS a.1 a.2⟩
def a_laws_szIntS : List (Nat × LoopAnn) := []
theorem e_laws_szIntS : fnDen ⟨tis, fns_65, [], false⟩ a_laws_szIntS Try.f129 (codeOf Try.f129) [.val false (.one (.sl (.one (.int .i64)))) false, .val false (.one (.int .i64)) false] [.val false (.one (.int .i64)) true] = fun a => laws_szIntS a.1 a.2 := by kernel_rfl
theorem m_laws_szIntS : Meets Try.prog 129 F_laws_szIntS := by
  have h := meets_of (ann := a_laws_szIntS) (ps := [.val false (.one (.sl (.one (.int .i64)))) false, .val false (.one (.int .i64)) false]) (rs := [.val false (.one (.int .i64)) true]) g_65 mixed Try.func129 (by kernel_rfl) (by kernel_rfl : Try.f129.body = some (codeOf Try.f129))
  rw [e_laws_szIntS] at h
  exact h
noncomputable def fns_129 : List (FuncId × Fn) := (129, F_laws_szIntS) :: fns_65
theorem g_129 : Good Try.prog ⟨tis, fns_129, [], false⟩ := g_65.cons m_laws_szIntS
noncomputable def laws_szVrowS (a0 : List Vrow) (left1 : Int) : Option Int :=
  let left1_1 := w64 (left1 - (a0.length : Int))
  cond (decide (left1_1 < 0)) (some (-1)) (some left1_1)
noncomputable def F_laws_szVrowS : Fn := ⟨[.val false (.one (.sl cVrow)) false, .val false (.one (.int .i64)) false], [.val false (.one (.int .i64)) true], fun a => laws_szVrowS a.1 a.2⟩
def a_laws_szVrowS : List (Nat × LoopAnn) := []
theorem e_laws_szVrowS : fnDen ⟨tis, fns_129, [], false⟩ a_laws_szVrowS Try.f138 (codeOf Try.f138) [.val false (.one (.sl cVrow)) false, .val false (.one (.int .i64)) false] [.val false (.one (.int .i64)) true] = fun a => laws_szVrowS a.1 a.2 := by kernel_rfl
theorem m_laws_szVrowS : Meets Try.prog 138 F_laws_szVrowS := by
  have h := meets_of (ann := a_laws_szVrowS) (ps := [.val false (.one (.sl cVrow)) false, .val false (.one (.int .i64)) false]) (rs := [.val false (.one (.int .i64)) true]) g_129 mixed Try.func138 (by kernel_rfl) (by kernel_rfl : Try.f138.body = some (codeOf Try.f138))
  rw [e_laws_szVrowS] at h
  exact h
noncomputable def fns_138 : List (FuncId × Fn) := (138, F_laws_szVrowS) :: fns_129
theorem g_138 : Good Try.prog ⟨tis, fns_138, [], false⟩ := g_129.cons m_laws_szVrowS
noncomputable def laws_szVtab (a0 : Vtab) (left1 : Int) : Option Int :=
  (laws_szVrowS a0.1 left1).bind fun t8 =>
  cond (decide (t8 < 0))
    (some (-1))
    ((laws_szIntS a0.2 t8).bind fun t14 =>
    cond (decide (t14 < 0)) (some (-1)) (some t14))
noncomputable def F_laws_szVtab : Fn := ⟨[.val true cVtab false, .val false (.one (.int .i64)) false], [.val false (.one (.int .i64)) true], fun a => laws_szVtab a.1 a.2⟩
def a_laws_szVtab : List (Nat × LoopAnn) := []
theorem e_laws_szVtab : fnDen ⟨tis, fns_138, [], false⟩ a_laws_szVtab Try.f66 (codeOf Try.f66) [.val true cVtab false, .val false (.one (.int .i64)) false] [.val false (.one (.int .i64)) true] = fun a => laws_szVtab a.1 a.2 := by kernel_rfl
theorem m_laws_szVtab : Meets Try.prog 66 F_laws_szVtab := by
  have h := meets_of (ann := a_laws_szVtab) (ps := [.val true cVtab false, .val false (.one (.int .i64)) false]) (rs := [.val false (.one (.int .i64)) true]) g_138 mixed Try.func66 (by kernel_rfl) (by kernel_rfl : Try.f66.body = some (codeOf Try.f66))
  rw [e_laws_szVtab] at h
  exact h
noncomputable def fns_66 : List (FuncId × Fn) := (66, F_laws_szVtab) :: fns_138
theorem g_66 : Good Try.prog ⟨tis, fns_66, [], false⟩ := g_138.cons m_laws_szVtab
noncomputable def laws_szBridge (a0 : Bridge) (left1 : Int) : Option Int :=
  let left1_1 := w64 (left1 - (a0.2.1.length : Int))
  cond (decide (left1_1 < 0))
    (some (-1))
    ((laws_szPtS a0.2.2.1 left1_1).bind fun t15 =>
    cond (decide (t15 < 0))
      (some (-1))
      ((laws_szFentS a0.2.2.2.1 t15).bind fun t21 =>
      cond (decide (t21 < 0))
        (some (-1))
        ((laws_szVtab (a0.2.2.2.2.1, a0.2.2.2.2.2.1) t21).bind fun t27 =>
        cond (decide (t27 < 0)) (some (-1)) (some t27))))
noncomputable def F_laws_szBridge : Fn := ⟨[.val true cBridge false, .val false (.one (.int .i64)) false], [.val false (.one (.int .i64)) true], fun a => laws_szBridge a.1 a.2⟩
def a_laws_szBridge : List (Nat × LoopAnn) := []
theorem e_laws_szBridge : fnDen ⟨tis, fns_66, [], false⟩ a_laws_szBridge Try.f12 (codeOf Try.f12) [.val true cBridge false, .val false (.one (.int .i64)) false] [.val false (.one (.int .i64)) true] = fun a => laws_szBridge a.1 a.2 := by kernel_rfl
theorem m_laws_szBridge : Meets Try.prog 12 F_laws_szBridge := by
  have h := meets_of (ann := a_laws_szBridge) (ps := [.val true cBridge false, .val false (.one (.int .i64)) false]) (rs := [.val false (.one (.int .i64)) true]) g_66 mixed Try.func12 (by kernel_rfl) (by kernel_rfl : Try.f12.body = some (codeOf Try.f12))
  rw [e_laws_szBridge] at h
  exact h
noncomputable def fns_12 : List (FuncId × Fn) := (12, F_laws_szBridge) :: fns_66
theorem g_12 : Good Try.prog ⟨tis, fns_12, [], false⟩ := g_66.cons m_laws_szBridge
noncomputable def laws_toVec (a0 : Vec) : Option Vec :=
  some a0
noncomputable def F_laws_toVec : Fn := ⟨[.val true cVec false], [.val true cVec true], fun a => laws_toVec a⟩
def a_laws_toVec : List (Nat × LoopAnn) := []
theorem e_laws_toVec : fnDen ⟨tis, fns_12, [], false⟩ a_laws_toVec Try.f209 (codeOf Try.f209) [.val true cVec false] [.val true cVec true] = fun a => laws_toVec a := by kernel_rfl
theorem m_laws_toVec : Meets Try.prog 209 F_laws_toVec := by
  have h := meets_of (ann := a_laws_toVec) (ps := [.val true cVec false]) (rs := [.val true cVec true]) g_12 mixed Try.func209 (by kernel_rfl) (by kernel_rfl : Try.f209.body = some (codeOf Try.f209))
  rw [e_laws_toVec] at h
  exact h
noncomputable def fns_209 : List (FuncId × Fn) := (209, F_laws_toVec) :: fns_12
theorem g_209 : Good Try.prog ⟨tis, fns_209, [], false⟩ := g_12.cons m_laws_toVec
noncomputable def laws_toPt (a0 : Pt) : Option Pt :=
  (laws_toVec a0.2.2.2).bind fun t15 =>
  some (a0.1, a0.2.1, a0.2.2.1, t15.1, t15.2.1, t15.2.2.1, t15.2.2.2.1, t15.2.2.2.2)
noncomputable def F_laws_toPt : Fn := ⟨[.val true cPt false], [.val true cPt true], fun a => laws_toPt a⟩
def a_laws_toPt : List (Nat × LoopAnn) := []
theorem e_laws_toPt : fnDen ⟨tis, fns_209, [], false⟩ a_laws_toPt Try.f142 (codeOf Try.f142) [.val true cPt false] [.val true cPt true] = fun a => laws_toPt a := by kernel_rfl
theorem m_laws_toPt : Meets Try.prog 142 F_laws_toPt := by
  have h := meets_of (ann := a_laws_toPt) (ps := [.val true cPt false]) (rs := [.val true cPt true]) g_209 mixed Try.func142 (by kernel_rfl) (by kernel_rfl : Try.f142.body = some (codeOf Try.f142))
  rw [e_laws_toPt] at h
  exact h
noncomputable def fns_142 : List (FuncId × Fn) := (142, F_laws_toPt) :: fns_209
theorem g_142 : Good Try.prog ⟨tis, fns_142, [], false⟩ := g_209.cons m_laws_toPt
noncomputable def laws_toPtS_l0 (a0 : List Pt) (i4 : Int) (l : List Pt) : Option ((Int × List Pt) ⊕ (List Pt)) :=
  cond (decide (i4 < (a0.length : Int)))
    ((at? a0 i4).bind fun x18 =>
    (laws_toPt x18).bind fun t20 =>
    (ix l.length i4).bind fun j21 =>
    (l[j21]?).bind fun x =>
    some (.inl (w64 (i4 + 1), l.set j21 t20)))
    (some (.inr l))
noncomputable def laws_toPtS (a0 : List Pt) : Option (List Pt) :=
  (mkLen (a0.length : Int)).bind fun n =>
  (loop (fun z => laws_toPtS_l0 a0 z.1 z.2) (0, List.replicate n ((false, 0, false, 0, 0, 0, 0, 0) : Pt))).bind fun d =>
  some d
noncomputable def F_laws_toPtS : Fn := ⟨[.val false (.one (.sl cPt)) false], [.val false (.one (.sl cPt)) true], fun a => laws_toPtS a⟩
def a_laws_toPtS : List (Nat × LoopAnn) := [(0, ⟨⟨[(4, false, [.dat (.int .i64)])], [(265216, .keep cPt true)]⟩,
    ⟨[], [(265216, .keep cPt true)]⟩, none⟩)]
theorem e_laws_toPtS : fnDen ⟨tis, fns_142, [], false⟩ a_laws_toPtS Try.f69 (codeOf Try.f69) [.val false (.one (.sl cPt)) false] [.val false (.one (.sl cPt)) true] = fun a => laws_toPtS a := by kernel_rfl
theorem m_laws_toPtS : Meets Try.prog 69 F_laws_toPtS := by
  have h := meets_of (ann := a_laws_toPtS) (ps := [.val false (.one (.sl cPt)) false]) (rs := [.val false (.one (.sl cPt)) true]) g_142 mixed Try.func69 (by kernel_rfl) (by kernel_rfl : Try.f69.body = some (codeOf Try.f69))
  rw [e_laws_toPtS] at h
  exact h
noncomputable def fns_69 : List (FuncId × Fn) := (69, F_laws_toPtS) :: fns_142
theorem g_69 : Good Try.prog ⟨tis, fns_69, [], false⟩ := g_142.cons m_laws_toPtS
noncomputable def laws_toFent (a0 : Fent) : Option Fent :=
  some a0
noncomputable def F_laws_toFent : Fn := ⟨[.val true cFent false], [.val true cFent true], fun a => laws_toFent a⟩
def a_laws_toFent : List (Nat × LoopAnn) := []
theorem e_laws_toFent : fnDen ⟨tis, fns_69, [], false⟩ a_laws_toFent Try.f143 (codeOf Try.f143) [.val true cFent false] [.val true cFent true] = fun a => laws_toFent a := by kernel_rfl
theorem m_laws_toFent : Meets Try.prog 143 F_laws_toFent := by
  have h := meets_of (ann := a_laws_toFent) (ps := [.val true cFent false]) (rs := [.val true cFent true]) g_69 mixed Try.func143 (by kernel_rfl) (by kernel_rfl : Try.f143.body = some (codeOf Try.f143))
  rw [e_laws_toFent] at h
  exact h
noncomputable def fns_143 : List (FuncId × Fn) := (143, F_laws_toFent) :: fns_69
theorem g_143 : Good Try.prog ⟨tis, fns_143, [], false⟩ := g_69.cons m_laws_toFent
noncomputable def laws_toFentS_l0 (a0 : List Fent) (i4 : Int) (l : List Fent) : Option ((Int × List Fent) ⊕ (List Fent)) :=
  cond (decide (i4 < (a0.length : Int)))
    ((at? a0 i4).bind fun x18 =>
    (laws_toFent x18).bind fun t20 =>
    (ix l.length i4).bind fun j21 =>
    (l[j21]?).bind fun x =>
    some (.inl (w64 (i4 + 1), l.set j21 t20)))
    (some (.inr l))
noncomputable def laws_toFentS (a0 : List Fent) : Option (List Fent) :=
  (mkLen (a0.length : Int)).bind fun n =>
  (loop (fun z => laws_toFentS_l0 a0 z.1 z.2) (0, List.replicate n ((0, 0, 0, 0, false) : Fent))).bind fun d =>
  some d
noncomputable def F_laws_toFentS : Fn := ⟨[.val false (.one (.sl cFent)) false], [.val false (.one (.sl cFent)) true], fun a => laws_toFentS a⟩
def a_laws_toFentS : List (Nat × LoopAnn) := [(0, ⟨⟨[(4, false, [.dat (.int .i64)])], [(265216, .keep cFent true)]⟩,
    ⟨[], [(265216, .keep cFent true)]⟩, none⟩)]
theorem e_laws_toFentS : fnDen ⟨tis, fns_143, [], false⟩ a_laws_toFentS Try.f70 (codeOf Try.f70) [.val false (.one (.sl cFent)) false] [.val false (.one (.sl cFent)) true] = fun a => laws_toFentS a := by kernel_rfl
theorem m_laws_toFentS : Meets Try.prog 70 F_laws_toFentS := by
  have h := meets_of (ann := a_laws_toFentS) (ps := [.val false (.one (.sl cFent)) false]) (rs := [.val false (.one (.sl cFent)) true]) g_143 mixed Try.func70 (by kernel_rfl) (by kernel_rfl : Try.f70.body = some (codeOf Try.f70))
  rw [e_laws_toFentS] at h
  exact h
noncomputable def fns_70 : List (FuncId × Fn) := (70, F_laws_toFentS) :: fns_143
theorem g_70 : Good Try.prog ⟨tis, fns_70, [], false⟩ := g_143.cons m_laws_toFentS
noncomputable def laws_toIntS_l0 (a0 : List Int) (i4 : Int) (l : List Int) : Option ((Int × List Int) ⊕ (List Int)) :=
  cond (decide (i4 < (a0.length : Int)))
    ((at? a0 i4).bind fun x18 =>
    (ix l.length i4).bind fun j20 =>
    (l[j20]?).bind fun x =>
    some (.inl (w64 (i4 + 1), l.set j20 x18)))
    (some (.inr l))
noncomputable def laws_toIntS (a0 : List Int) : Option (List Int) :=
  (mkLen (a0.length : Int)).bind fun n =>
  (loop (fun z => laws_toIntS_l0 a0 z.1 z.2) (0, List.replicate n (0 : Int))).bind fun d =>
  some d
noncomputable def F_laws_toIntS : Fn := ⟨[.val false (.one (.sl (.one (.int .i64)))) false], [.val false (.one (.sl (.one (.int .i64)))) true], fun a => laws_toIntS a⟩
def a_laws_toIntS : List (Nat × LoopAnn) := [(0, ⟨⟨[(4, false, [.dat (.int .i64)])], [(265216, .keep (.one (.int .i64)) true)]⟩,
    ⟨[], [(265216, .keep (.one (.int .i64)) true)]⟩, none⟩)]
theorem e_laws_toIntS : fnDen ⟨tis, fns_70, [], false⟩ a_laws_toIntS Try.f15 (codeOf Try.f15) [.val false (.one (.sl (.one (.int .i64)))) false] [.val false (.one (.sl (.one (.int .i64)))) true] = fun a => laws_toIntS a := by kernel_rfl
theorem m_laws_toIntS : Meets Try.prog 15 F_laws_toIntS := by
  have h := meets_of (ann := a_laws_toIntS) (ps := [.val false (.one (.sl (.one (.int .i64)))) false]) (rs := [.val false (.one (.sl (.one (.int .i64)))) true]) g_70 mixed Try.func15 (by kernel_rfl) (by kernel_rfl : Try.f15.body = some (codeOf Try.f15))
  rw [e_laws_toIntS] at h
  exact h
noncomputable def fns_15 : List (FuncId × Fn) := (15, F_laws_toIntS) :: fns_70
theorem g_15 : Good Try.prog ⟨tis, fns_15, [], false⟩ := g_70.cons m_laws_toIntS
noncomputable def laws_toVrow (a0 : Vrow) : Option Vrow :=
  some a0
noncomputable def F_laws_toVrow : Fn := ⟨[.val true cVrow false], [.val true cVrow true], fun a => laws_toVrow a⟩
def a_laws_toVrow : List (Nat × LoopAnn) := []
theorem e_laws_toVrow : fnDen ⟨tis, fns_15, [], false⟩ a_laws_toVrow Try.f210 (codeOf Try.f210) [.val true cVrow false] [.val true cVrow true] = fun a => laws_toVrow a := by kernel_rfl
theorem m_laws_toVrow : Meets Try.prog 210 F_laws_toVrow := by
  have h := meets_of (ann := a_laws_toVrow) (ps := [.val true cVrow false]) (rs := [.val true cVrow true]) g_15 mixed Try.func210 (by kernel_rfl) (by kernel_rfl : Try.f210.body = some (codeOf Try.f210))
  rw [e_laws_toVrow] at h
  exact h
noncomputable def fns_210 : List (FuncId × Fn) := (210, F_laws_toVrow) :: fns_15
theorem g_210 : Good Try.prog ⟨tis, fns_210, [], false⟩ := g_15.cons m_laws_toVrow
noncomputable def laws_toVrowS_l0 (a0 : List Vrow) (i4 : Int) (l : List Vrow) : Option ((Int × List Vrow) ⊕ (List Vrow)) :=
  cond (decide (i4 < (a0.length : Int)))
    ((at? a0 i4).bind fun x18 =>
    (laws_toVrow x18).bind fun t20 =>
    (ix l.length i4).bind fun j21 =>
    (l[j21]?).bind fun x =>
    some (.inl (w64 (i4 + 1), l.set j21 t20)))
    (some (.inr l))
noncomputable def laws_toVrowS (a0 : List Vrow) : Option (List Vrow) :=
  (mkLen (a0.length : Int)).bind fun n =>
  (loop (fun z => laws_toVrowS_l0 a0 z.1 z.2) (0, List.replicate n ((0, 0, 0) : Vrow))).bind fun d =>
  some d
noncomputable def F_laws_toVrowS : Fn := ⟨[.val false (.one (.sl cVrow)) false], [.val false (.one (.sl cVrow)) true], fun a => laws_toVrowS a⟩
def a_laws_toVrowS : List (Nat × LoopAnn) := [(0, ⟨⟨[(4, false, [.dat (.int .i64)])], [(265216, .keep cVrow true)]⟩,
    ⟨[], [(265216, .keep cVrow true)]⟩, none⟩)]
theorem e_laws_toVrowS : fnDen ⟨tis, fns_210, [], false⟩ a_laws_toVrowS Try.f144 (codeOf Try.f144) [.val false (.one (.sl cVrow)) false] [.val false (.one (.sl cVrow)) true] = fun a => laws_toVrowS a := by kernel_rfl
theorem m_laws_toVrowS : Meets Try.prog 144 F_laws_toVrowS := by
  have h := meets_of (ann := a_laws_toVrowS) (ps := [.val false (.one (.sl cVrow)) false]) (rs := [.val false (.one (.sl cVrow)) true]) g_210 mixed Try.func144 (by kernel_rfl) (by kernel_rfl : Try.f144.body = some (codeOf Try.f144))
  rw [e_laws_toVrowS] at h
  exact h
noncomputable def fns_144 : List (FuncId × Fn) := (144, F_laws_toVrowS) :: fns_210
theorem g_144 : Good Try.prog ⟨tis, fns_144, [], false⟩ := g_210.cons m_laws_toVrowS
noncomputable def laws_toVtab (a0 : Vtab) : Option Vtab :=
  (laws_toVrowS a0.1).bind fun t6 =>
  (laws_toIntS a0.2).bind fun t10 =>
  some (t6, t10)
noncomputable def F_laws_toVtab : Fn := ⟨[.val true cVtab false], [.val true cVtab true], fun a => laws_toVtab a⟩
def a_laws_toVtab : List (Nat × LoopAnn) := []
theorem e_laws_toVtab : fnDen ⟨tis, fns_144, [], false⟩ a_laws_toVtab Try.f71 (codeOf Try.f71) [.val true cVtab false] [.val true cVtab true] = fun a => laws_toVtab a := by kernel_rfl
theorem m_laws_toVtab : Meets Try.prog 71 F_laws_toVtab := by
  have h := meets_of (ann := a_laws_toVtab) (ps := [.val true cVtab false]) (rs := [.val true cVtab true]) g_144 mixed Try.func71 (by kernel_rfl) (by kernel_rfl : Try.f71.body = some (codeOf Try.f71))
  rw [e_laws_toVtab] at h
  exact h
noncomputable def fns_71 : List (FuncId × Fn) := (71, F_laws_toVtab) :: fns_144
theorem g_71 : Good Try.prog ⟨tis, fns_71, [], false⟩ := g_144.cons m_laws_toVtab
noncomputable def laws_toBridge (a0 : Bridge) : Option Bridge :=
  (laws_toPtS a0.2.2.1).bind fun t12 =>
  (laws_toFentS a0.2.2.2.1).bind fun t16 =>
  (laws_toVtab (a0.2.2.2.2.1, a0.2.2.2.2.2.1)).bind fun t20 =>
  some (a0.1, a0.2.1, t12, t16, t20.1, t20.2, a0.2.2.2.2.2.2.1, a0.2.2.2.2.2.2.2.1, a0.2.2.2.2.2.2.2.2.1, a0.2.2.2.2.2.2.2.2.2.1, a0.2.2.2.2.2.2.2.2.2.2)
noncomputable def F_laws_toBridge : Fn := ⟨[.val true cBridge false], [.val true cBridge true], fun a => laws_toBridge a⟩
def a_laws_toBridge : List (Nat × LoopAnn) := []
theorem e_laws_toBridge : fnDen ⟨tis, fns_71, [], false⟩ a_laws_toBridge Try.f14 (codeOf Try.f14) [.val true cBridge false] [.val true cBridge true] = fun a => laws_toBridge a := by kernel_rfl
theorem m_laws_toBridge : Meets Try.prog 14 F_laws_toBridge := by
  have h := meets_of (ann := a_laws_toBridge) (ps := [.val true cBridge false]) (rs := [.val true cBridge true]) g_71 mixed Try.func14 (by kernel_rfl) (by kernel_rfl : Try.f14.body = some (codeOf Try.f14))
  rw [e_laws_toBridge] at h
  exact h
noncomputable def fns_14 : List (FuncId × Fn) := (14, F_laws_toBridge) :: fns_71
theorem g_14 : Good Try.prog ⟨tis, fns_14, [], false⟩ := g_71.cons m_laws_toBridge
noncomputable def laws_eqVec (a0 : Vec) (b1 : Vec) : Option Bool :=
  cond (a0.1 != b1.1)
    (some false)
    (cond (a0.2.1 != b1.2.1)
      (some false)
      (cond (a0.2.2.1 != b1.2.2.1)
        (some false)
        (cond (a0.2.2.2.1 != b1.2.2.2.1)
          (some false)
          (cond (a0.2.2.2.2 != b1.2.2.2.2) (some false) (some true)))))
noncomputable def F_laws_eqVec : Fn := ⟨[.val true cVec false, .val true cVec false], [.val false (.one .bool) true], fun a => laws_eqVec a.1 a.2⟩
def a_laws_eqVec : List (Nat × LoopAnn) := []
theorem e_laws_eqVec : fnDen ⟨tis, fns_14, [], false⟩ a_laws_eqVec Try.f213 (codeOf Try.f213) [.val true cVec false, .val true cVec false] [.val false (.one .bool) true] = fun a => laws_eqVec a.1 a.2 := by kernel_rfl
theorem m_laws_eqVec : Meets Try.prog 213 F_laws_eqVec := by
  have h := meets_of (ann := a_laws_eqVec) (ps := [.val true cVec false, .val true cVec false]) (rs := [.val false (.one .bool) true]) g_14 mixed Try.func213 (by kernel_rfl) (by kernel_rfl : Try.f213.body = some (codeOf Try.f213))
  rw [e_laws_eqVec] at h
  exact h
noncomputable def fns_213 : List (FuncId × Fn) := (213, F_laws_eqVec) :: fns_14
theorem g_213 : Good Try.prog ⟨tis, fns_213, [], false⟩ := g_14.cons m_laws_eqVec
noncomputable def laws_eqPt (a0 : Pt) (b1 : Pt) : Option Bool :=
  cond (!(a0.1 == b1.1))
    (some false)
    (cond (a0.2.1 != b1.2.1)
      (some false)
      (cond (!(a0.2.2.1 == b1.2.2.1))
        (some false)
        ((laws_eqVec a0.2.2.2 b1.2.2.2).bind fun t24 =>
        cond (!t24) (some false) (some true))))
noncomputable def F_laws_eqPt : Fn := ⟨[.val true cPt false, .val true cPt false], [.val false (.one .bool) true], fun a => laws_eqPt a.1 a.2⟩
def a_laws_eqPt : List (Nat × LoopAnn) := []
theorem e_laws_eqPt : fnDen ⟨tis, fns_213, [], false⟩ a_laws_eqPt Try.f148 (codeOf Try.f148) [.val true cPt false, .val true cPt false] [.val false (.one .bool) true] = fun a => laws_eqPt a.1 a.2 := by kernel_rfl
theorem m_laws_eqPt : Meets Try.prog 148 F_laws_eqPt := by
  have h := meets_of (ann := a_laws_eqPt) (ps := [.val true cPt false, .val true cPt false]) (rs := [.val false (.one .bool) true]) g_213 mixed Try.func148 (by kernel_rfl) (by kernel_rfl : Try.f148.body = some (codeOf Try.f148))
  rw [e_laws_eqPt] at h
  exact h
noncomputable def fns_148 : List (FuncId × Fn) := (148, F_laws_eqPt) :: fns_213
theorem g_148 : Good Try.prog ⟨tis, fns_148, [], false⟩ := g_213.cons m_laws_eqPt
noncomputable def laws_eqPtS_l0 (a0 : List Pt) (b1 : List Pt) (i5 : Int) : Option (Int ⊕ (Unit ⊕ Bool)) :=
  cond (decide (i5 < (a0.length : Int)))
    ((at? a0 i5).bind fun x19 =>
    (at? b1 i5).bind fun x23 =>
    (laws_eqPt x19 x23).bind fun t25 =>
    cond (!t25) (some (.inr (.inr false))) (some (.inl (w64 (i5 + 1)))))
    (some (.inr (.inl ())))
noncomputable def laws_eqPtS (a0 : List Pt) (b1 : List Pt) : Option Bool :=
  cond ((a0.length : Int) != (b1.length : Int))
    (some false)
    ((loop (fun z => laws_eqPtS_l0 a0 b1 z) 0).bind (Sum.elim (fun d =>
      some true) (fun r => some r)))
noncomputable def F_laws_eqPtS : Fn := ⟨[.val false (.one (.sl cPt)) false, .val false (.one (.sl cPt)) false], [.val false (.one .bool) true], fun a => laws_eqPtS a.1 a.2⟩
def a_laws_eqPtS : List (Nat × LoopAnn) := [(0, ⟨⟨[(5, false, [.dat (.int .i64)])], []⟩,
    ⟨[], []⟩, some ⟨[(4, false, [.dat .bool])], []⟩⟩)]
theorem e_laws_eqPtS : fnDen ⟨tis, fns_148, [], false⟩ a_laws_eqPtS Try.f74 (codeOf Try.f74) [.val false (.one (.sl cPt)) false, .val false (.one (.sl cPt)) false] [.val false (.one .bool) true] = fun a => laws_eqPtS a.1 a.2 := by kernel_rfl
theorem m_laws_eqPtS : Meets Try.prog 74 F_laws_eqPtS := by
  have h := meets_of (ann := a_laws_eqPtS) (ps := [.val false (.one (.sl cPt)) false, .val false (.one (.sl cPt)) false]) (rs := [.val false (.one .bool) true]) g_148 mixed Try.func74 (by kernel_rfl) (by kernel_rfl : Try.f74.body = some (codeOf Try.f74))
  rw [e_laws_eqPtS] at h
  exact h
noncomputable def fns_74 : List (FuncId × Fn) := (74, F_laws_eqPtS) :: fns_148
theorem g_74 : Good Try.prog ⟨tis, fns_74, [], false⟩ := g_148.cons m_laws_eqPtS
noncomputable def laws_eqFent (a0 : Fent) (b1 : Fent) : Option Bool :=
  cond (a0.1 != b1.1)
    (some false)
    (cond (a0.2.1 != b1.2.1)
      (some false)
      (cond (a0.2.2.1 != b1.2.2.1)
        (some false)
        (cond (a0.2.2.2.1 != b1.2.2.2.1)
          (some false)
          (cond (!(a0.2.2.2.2 == b1.2.2.2.2)) (some false) (some true)))))
noncomputable def F_laws_eqFent : Fn := ⟨[.val true cFent false, .val true cFent false], [.val false (.one .bool) true], fun a => laws_eqFent a.1 a.2⟩
def a_laws_eqFent : List (Nat × LoopAnn) := []
theorem e_laws_eqFent : fnDen ⟨tis, fns_74, [], false⟩ a_laws_eqFent Try.f149 (codeOf Try.f149) [.val true cFent false, .val true cFent false] [.val false (.one .bool) true] = fun a => laws_eqFent a.1 a.2 := by kernel_rfl
theorem m_laws_eqFent : Meets Try.prog 149 F_laws_eqFent := by
  have h := meets_of (ann := a_laws_eqFent) (ps := [.val true cFent false, .val true cFent false]) (rs := [.val false (.one .bool) true]) g_74 mixed Try.func149 (by kernel_rfl) (by kernel_rfl : Try.f149.body = some (codeOf Try.f149))
  rw [e_laws_eqFent] at h
  exact h
noncomputable def fns_149 : List (FuncId × Fn) := (149, F_laws_eqFent) :: fns_74
theorem g_149 : Good Try.prog ⟨tis, fns_149, [], false⟩ := g_74.cons m_laws_eqFent
noncomputable def laws_eqFentS_l0 (a0 : List Fent) (b1 : List Fent) (i5 : Int) : Option (Int ⊕ (Unit ⊕ Bool)) :=
  cond (decide (i5 < (a0.length : Int)))
    ((at? a0 i5).bind fun x19 =>
    (at? b1 i5).bind fun x23 =>
    (laws_eqFent x19 x23).bind fun t25 =>
    cond (!t25) (some (.inr (.inr false))) (some (.inl (w64 (i5 + 1)))))
    (some (.inr (.inl ())))
noncomputable def laws_eqFentS (a0 : List Fent) (b1 : List Fent) : Option Bool :=
  cond ((a0.length : Int) != (b1.length : Int))
    (some false)
    ((loop (fun z => laws_eqFentS_l0 a0 b1 z) 0).bind (Sum.elim (fun d =>
      some true) (fun r => some r)))
noncomputable def F_laws_eqFentS : Fn := ⟨[.val false (.one (.sl cFent)) false, .val false (.one (.sl cFent)) false], [.val false (.one .bool) true], fun a => laws_eqFentS a.1 a.2⟩
def a_laws_eqFentS : List (Nat × LoopAnn) := [(0, ⟨⟨[(5, false, [.dat (.int .i64)])], []⟩,
    ⟨[], []⟩, some ⟨[(4, false, [.dat .bool])], []⟩⟩)]
theorem e_laws_eqFentS : fnDen ⟨tis, fns_149, [], false⟩ a_laws_eqFentS Try.f75 (codeOf Try.f75) [.val false (.one (.sl cFent)) false, .val false (.one (.sl cFent)) false] [.val false (.one .bool) true] = fun a => laws_eqFentS a.1 a.2 := by kernel_rfl
theorem m_laws_eqFentS : Meets Try.prog 75 F_laws_eqFentS := by
  have h := meets_of (ann := a_laws_eqFentS) (ps := [.val false (.one (.sl cFent)) false, .val false (.one (.sl cFent)) false]) (rs := [.val false (.one .bool) true]) g_149 mixed Try.func75 (by kernel_rfl) (by kernel_rfl : Try.f75.body = some (codeOf Try.f75))
  rw [e_laws_eqFentS] at h
  exact h
noncomputable def fns_75 : List (FuncId × Fn) := (75, F_laws_eqFentS) :: fns_149
theorem g_75 : Good Try.prog ⟨tis, fns_75, [], false⟩ := g_149.cons m_laws_eqFentS
noncomputable def laws_eqIntS_l0 (a0 : List Int) (b1 : List Int) (i5 : Int) : Option (Int ⊕ (Unit ⊕ Bool)) :=
  cond (decide (i5 < (a0.length : Int)))
    ((at? a0 i5).bind fun x19 =>
    (at? b1 i5).bind fun x23 =>
    cond (x19 != x23) (some (.inr (.inr false))) (some (.inl (w64 (i5 + 1)))))
    (some (.inr (.inl ())))
noncomputable def laws_eqIntS (a0 : List Int) (b1 : List Int) : Option Bool :=
  cond ((a0.length : Int) != (b1.length : Int))
    (some false)
    ((loop (fun z => laws_eqIntS_l0 a0 b1 z) 0).bind (Sum.elim (fun d =>
      some true) (fun r => some r)))
noncomputable def F_laws_eqIntS : Fn := ⟨[.val false (.one (.sl (.one (.int .i64)))) false, .val false (.one (.sl (.one (.int .i64)))) false], [.val false (.one .bool) true], fun a => laws_eqIntS a.1 a.2⟩
def a_laws_eqIntS : List (Nat × LoopAnn) := [(0, ⟨⟨[(5, false, [.dat (.int .i64)])], []⟩,
    ⟨[], []⟩, some ⟨[(4, false, [.dat .bool])], []⟩⟩)]
theorem e_laws_eqIntS : fnDen ⟨tis, fns_75, [], false⟩ a_laws_eqIntS Try.f18 (codeOf Try.f18) [.val false (.one (.sl (.one (.int .i64)))) false, .val false (.one (.sl (.one (.int .i64)))) false] [.val false (.one .bool) true] = fun a => laws_eqIntS a.1 a.2 := by kernel_rfl
theorem m_laws_eqIntS : Meets Try.prog 18 F_laws_eqIntS := by
  have h := meets_of (ann := a_laws_eqIntS) (ps := [.val false (.one (.sl (.one (.int .i64)))) false, .val false (.one (.sl (.one (.int .i64)))) false]) (rs := [.val false (.one .bool) true]) g_75 mixed Try.func18 (by kernel_rfl) (by kernel_rfl : Try.f18.body = some (codeOf Try.f18))
  rw [e_laws_eqIntS] at h
  exact h
noncomputable def fns_18 : List (FuncId × Fn) := (18, F_laws_eqIntS) :: fns_75
theorem g_18 : Good Try.prog ⟨tis, fns_18, [], false⟩ := g_75.cons m_laws_eqIntS
noncomputable def laws_eqVrow (a0 : Vrow) (b1 : Vrow) : Option Bool :=
  cond (a0.1 != b1.1)
    (some false)
    (cond (a0.2.1 != b1.2.1) (some false) (cond (a0.2.2 != b1.2.2) (some false) (some true)))
noncomputable def F_laws_eqVrow : Fn := ⟨[.val true cVrow false, .val true cVrow false], [.val false (.one .bool) true], fun a => laws_eqVrow a.1 a.2⟩
def a_laws_eqVrow : List (Nat × LoopAnn) := []
theorem e_laws_eqVrow : fnDen ⟨tis, fns_18, [], false⟩ a_laws_eqVrow Try.f214 (codeOf Try.f214) [.val true cVrow false, .val true cVrow false] [.val false (.one .bool) true] = fun a => laws_eqVrow a.1 a.2 := by kernel_rfl
theorem m_laws_eqVrow : Meets Try.prog 214 F_laws_eqVrow := by
  have h := meets_of (ann := a_laws_eqVrow) (ps := [.val true cVrow false, .val true cVrow false]) (rs := [.val false (.one .bool) true]) g_18 mixed Try.func214 (by kernel_rfl) (by kernel_rfl : Try.f214.body = some (codeOf Try.f214))
  rw [e_laws_eqVrow] at h
  exact h
noncomputable def fns_214 : List (FuncId × Fn) := (214, F_laws_eqVrow) :: fns_18
theorem g_214 : Good Try.prog ⟨tis, fns_214, [], false⟩ := g_18.cons m_laws_eqVrow
noncomputable def laws_eqVrowS_l0 (a0 : List Vrow) (b1 : List Vrow) (i5 : Int) : Option (Int ⊕ (Unit ⊕ Bool)) :=
  cond (decide (i5 < (a0.length : Int)))
    ((at? a0 i5).bind fun x19 =>
    (at? b1 i5).bind fun x23 =>
    (laws_eqVrow x19 x23).bind fun t25 =>
    cond (!t25) (some (.inr (.inr false))) (some (.inl (w64 (i5 + 1)))))
    (some (.inr (.inl ())))
noncomputable def laws_eqVrowS (a0 : List Vrow) (b1 : List Vrow) : Option Bool :=
  cond ((a0.length : Int) != (b1.length : Int))
    (some false)
    ((loop (fun z => laws_eqVrowS_l0 a0 b1 z) 0).bind (Sum.elim (fun d =>
      some true) (fun r => some r)))
noncomputable def F_laws_eqVrowS : Fn := ⟨[.val false (.one (.sl cVrow)) false, .val false (.one (.sl cVrow)) false], [.val false (.one .bool) true], fun a => laws_eqVrowS a.1 a.2⟩
def a_laws_eqVrowS : List (Nat × LoopAnn) := [(0, ⟨⟨[(5, false, [.dat (.int .i64)])], []⟩,
    ⟨[], []⟩, some ⟨[(4, false, [.dat .bool])], []⟩⟩)]
theorem e_laws_eqVrowS : fnDen ⟨tis, fns_214, [], false⟩ a_laws_eqVrowS Try.f150 (codeOf Try.f150) [.val false (.one (.sl cVrow)) false, .val false (.one (.sl cVrow)) false] [.val false (.one .bool) true] = fun a => laws_eqVrowS a.1 a.2 := by kernel_rfl
theorem m_laws_eqVrowS : Meets Try.prog 150 F_laws_eqVrowS := by
  have h := meets_of (ann := a_laws_eqVrowS) (ps := [.val false (.one (.sl cVrow)) false, .val false (.one (.sl cVrow)) false]) (rs := [.val false (.one .bool) true]) g_214 mixed Try.func150 (by kernel_rfl) (by kernel_rfl : Try.f150.body = some (codeOf Try.f150))
  rw [e_laws_eqVrowS] at h
  exact h
noncomputable def fns_150 : List (FuncId × Fn) := (150, F_laws_eqVrowS) :: fns_214
theorem g_150 : Good Try.prog ⟨tis, fns_150, [], false⟩ := g_214.cons m_laws_eqVrowS
noncomputable def laws_eqVtab (a0 : Vtab) (b1 : Vtab) : Option Bool :=
  (laws_eqVrowS a0.1 b1.1).bind fun t9 =>
  cond (!t9)
    (some false)
    ((laws_eqIntS a0.2 b1.2).bind fun t15 =>
    cond (!t15) (some false) (some true))
noncomputable def F_laws_eqVtab : Fn := ⟨[.val true cVtab false, .val true cVtab false], [.val false (.one .bool) true], fun a => laws_eqVtab a.1 a.2⟩
def a_laws_eqVtab : List (Nat × LoopAnn) := []
theorem e_laws_eqVtab : fnDen ⟨tis, fns_150, [], false⟩ a_laws_eqVtab Try.f76 (codeOf Try.f76) [.val true cVtab false, .val true cVtab false] [.val false (.one .bool) true] = fun a => laws_eqVtab a.1 a.2 := by kernel_rfl
theorem m_laws_eqVtab : Meets Try.prog 76 F_laws_eqVtab := by
  have h := meets_of (ann := a_laws_eqVtab) (ps := [.val true cVtab false, .val true cVtab false]) (rs := [.val false (.one .bool) true]) g_150 mixed Try.func76 (by kernel_rfl) (by kernel_rfl : Try.f76.body = some (codeOf Try.f76))
  rw [e_laws_eqVtab] at h
  exact h
noncomputable def fns_76 : List (FuncId × Fn) := (76, F_laws_eqVtab) :: fns_150
theorem g_76 : Good Try.prog ⟨tis, fns_76, [], false⟩ := g_150.cons m_laws_eqVtab
noncomputable def laws_eqBridge (a0 : Bridge) (b1 : Bridge) : Option Bool :=
  cond (a0.1 != b1.1)
    (some false)
    (cond (!(a0.2.1 == b1.2.1))
      (some false)
      ((laws_eqPtS a0.2.2.1 b1.2.2.1).bind fun t19 =>
      cond (!t19)
        (some false)
        ((laws_eqFentS a0.2.2.2.1 b1.2.2.2.1).bind fun t25 =>
        cond (!t25)
          (some false)
          ((laws_eqVtab (a0.2.2.2.2.1, a0.2.2.2.2.2.1) (b1.2.2.2.2.1, b1.2.2.2.2.2.1)).bind fun t31 =>
          cond (!t31)
            (some false)
            (cond (a0.2.2.2.2.2.2.1 != b1.2.2.2.2.2.2.1)
              (some false)
              (cond (a0.2.2.2.2.2.2.2.1 != b1.2.2.2.2.2.2.2.1)
                (some false)
                (cond (a0.2.2.2.2.2.2.2.2.1 != b1.2.2.2.2.2.2.2.2.1)
                  (some false)
                  (cond (a0.2.2.2.2.2.2.2.2.2.1 != b1.2.2.2.2.2.2.2.2.2.1)
                    (some false)
                    (cond (a0.2.2.2.2.2.2.2.2.2.2 != b1.2.2.2.2.2.2.2.2.2.2) (some false) (some true))))))))))
noncomputable def F_laws_eqBridge : Fn := ⟨[.val true cBridge false, .val true cBridge false], [.val false (.one .bool) true], fun a => laws_eqBridge a.1 a.2⟩
def a_laws_eqBridge : List (Nat × LoopAnn) := []
theorem e_laws_eqBridge : fnDen ⟨tis, fns_76, [], false⟩ a_laws_eqBridge Try.f17 (codeOf Try.f17) [.val true cBridge false, .val true cBridge false] [.val false (.one .bool) true] = fun a => laws_eqBridge a.1 a.2 := by kernel_rfl
theorem m_laws_eqBridge : Meets Try.prog 17 F_laws_eqBridge := by
  have h := meets_of (ann := a_laws_eqBridge) (ps := [.val true cBridge false, .val true cBridge false]) (rs := [.val false (.one .bool) true]) g_76 mixed Try.func17 (by kernel_rfl) (by kernel_rfl : Try.f17.body = some (codeOf Try.f17))
  rw [e_laws_eqBridge] at h
  exact h
noncomputable def fns_17 : List (FuncId × Fn) := (17, F_laws_eqBridge) :: fns_76
theorem g_17 : Good Try.prog ⟨tis, fns_17, [], false⟩ := g_76.cons m_laws_eqBridge
noncomputable def impl_copyFdb (l0 : List Fent) : Option (List Fent) :=
  (app [] l0).bind fun zs4 =>
  some zs4
noncomputable def F_impl_copyFdb : Fn := ⟨[.val false (.one (.sl cFent)) false], [.val false (.one (.sl cFent)) true], fun a => impl_copyFdb a⟩
def a_impl_copyFdb : List (Nat × LoopAnn) := []
theorem e_impl_copyFdb : fnDen ⟨tis, fns_17, [], false⟩ a_impl_copyFdb Try.f159 (codeOf Try.f159) [.val false (.one (.sl cFent)) false] [.val false (.one (.sl cFent)) true] = fun a => impl_copyFdb a := by kernel_rfl
theorem m_impl_copyFdb : Meets Try.prog 159 F_impl_copyFdb := by
  have h := meets_of (ann := a_impl_copyFdb) (ps := [.val false (.one (.sl cFent)) false]) (rs := [.val false (.one (.sl cFent)) true]) g_17 mixed Try.func159 (by kernel_rfl) (by kernel_rfl : Try.f159.body = some (codeOf Try.f159))
  rw [e_impl_copyFdb] at h
  exact h
noncomputable def fns_159 : List (FuncId × Fn) := (159, F_impl_copyFdb) :: fns_17
theorem g_159 : Good Try.prog ⟨tis, fns_159, [], false⟩ := g_17.cons m_impl_copyFdb
noncomputable def impl_copyInts (l0 : List Int) : Option (List Int) :=
  (app [] l0).bind fun zs4 =>
  some zs4
noncomputable def F_impl_copyInts : Fn := ⟨[.val false (.one (.sl (.one (.int .i64)))) false], [.val false (.one (.sl (.one (.int .i64)))) true], fun a => impl_copyInts a⟩
def a_impl_copyInts : List (Nat × LoopAnn) := []
theorem e_impl_copyInts : fnDen ⟨tis, fns_159, [], false⟩ a_impl_copyInts Try.f110 (codeOf Try.f110) [.val false (.one (.sl (.one (.int .i64)))) false] [.val false (.one (.sl (.one (.int .i64)))) true] = fun a => impl_copyInts a := by kernel_rfl
theorem m_impl_copyInts : Meets Try.prog 110 F_impl_copyInts := by
  have h := meets_of (ann := a_impl_copyInts) (ps := [.val false (.one (.sl (.one (.int .i64)))) false]) (rs := [.val false (.one (.sl (.one (.int .i64)))) true]) g_159 mixed Try.func110 (by kernel_rfl) (by kernel_rfl : Try.f110.body = some (codeOf Try.f110))
  rw [e_impl_copyInts] at h
  exact h
noncomputable def fns_110 : List (FuncId × Fn) := (110, F_impl_copyInts) :: fns_159
theorem g_110 : Good Try.prog ⟨tis, fns_110, [], false⟩ := g_159.cons m_impl_copyInts
noncomputable def impl_copyVtab (v0 : Vtab) : Option Vtab :=
  (app [] v0.1).bind fun zs5 =>
  (impl_copyInts v0.2).bind fun t8 =>
  some (zs5, t8)
noncomputable def F_impl_copyVtab : Fn := ⟨[.val true cVtab false], [.val true cVtab true], fun a => impl_copyVtab a⟩
def a_impl_copyVtab : List (Nat × LoopAnn) := []
theorem e_impl_copyVtab : fnDen ⟨tis, fns_110, [], false⟩ a_impl_copyVtab Try.f160 (codeOf Try.f160) [.val true cVtab false] [.val true cVtab true] = fun a => impl_copyVtab a := by kernel_rfl
theorem m_impl_copyVtab : Meets Try.prog 160 F_impl_copyVtab := by
  have h := meets_of (ann := a_impl_copyVtab) (ps := [.val true cVtab false]) (rs := [.val true cVtab true]) g_110 mixed Try.func160 (by kernel_rfl) (by kernel_rfl : Try.f160.body = some (codeOf Try.f160))
  rw [e_impl_copyVtab] at h
  exact h
noncomputable def fns_160 : List (FuncId × Fn) := (160, F_impl_copyVtab) :: fns_110
theorem g_160 : Good Try.prog ⟨tis, fns_160, [], false⟩ := g_110.cons m_impl_copyVtab
noncomputable def impl_copyBridge (b0 : Bridge) : Option Bridge :=
  (app [] b0.2.2.1).bind fun zs5 =>
  (impl_copyFdb b0.2.2.2.1).bind fun t9 =>
  (impl_copyVtab (b0.2.2.2.2.1, b0.2.2.2.2.2.1)).bind fun t12 =>
  some (b0.1, b0.2.1, zs5, t9, t12.1, t12.2, b0.2.2.2.2.2.2.1, b0.2.2.2.2.2.2.2.1, b0.2.2.2.2.2.2.2.2.1, b0.2.2.2.2.2.2.2.2.2.1, b0.2.2.2.2.2.2.2.2.2.2)
noncomputable def F_impl_copyBridge : Fn := ⟨[.val true cBridge false], [.val true cBridge true], fun a => impl_copyBridge a⟩
def a_impl_copyBridge : List (Nat × LoopAnn) := []
theorem e_impl_copyBridge : fnDen ⟨tis, fns_160, [], false⟩ a_impl_copyBridge Try.f80 (codeOf Try.f80) [.val true cBridge false] [.val true cBridge true] = fun a => impl_copyBridge a := by kernel_rfl
theorem m_impl_copyBridge : Meets Try.prog 80 F_impl_copyBridge := by
  have h := meets_of (ann := a_impl_copyBridge) (ps := [.val true cBridge false]) (rs := [.val true cBridge true]) g_160 mixed Try.func80 (by kernel_rfl) (by kernel_rfl : Try.f80.body = some (codeOf Try.f80))
  rw [e_impl_copyBridge] at h
  exact h
noncomputable def fns_80 : List (FuncId × Fn) := (80, F_impl_copyBridge) :: fns_160
theorem g_80 : Good Try.prog ⟨tis, fns_80, [], false⟩ := g_160.cons m_impl_copyBridge
noncomputable def impl_in (n0 : Int) (low1 : Int) (high2 : Int) : Option Bool :=
  (cond (decide (n0 ≥ low1)) (some (decide (n0 ≤ high2))) (some false)).bind fun t14 =>
  some t14
noncomputable def F_impl_in : Fn := ⟨[.val false (.one (.int .i64)) false, .val false (.one (.int .i64)) false, .val false (.one (.int .i64)) false], [.val false (.one .bool) true], fun a => impl_in a.1 a.2.1 a.2.2⟩
def a_impl_in : List (Nat × LoopAnn) := []
theorem e_impl_in : fnDen ⟨tis, fns_80, [], false⟩ a_impl_in Try.f112 (codeOf Try.f112) [.val false (.one (.int .i64)) false, .val false (.one (.int .i64)) false, .val false (.one (.int .i64)) false] [.val false (.one .bool) true] = fun a => impl_in a.1 a.2.1 a.2.2 := by kernel_rfl
theorem m_impl_in : Meets Try.prog 112 F_impl_in := by
  have h := meets_of (ann := a_impl_in) (ps := [.val false (.one (.int .i64)) false, .val false (.one (.int .i64)) false, .val false (.one (.int .i64)) false]) (rs := [.val false (.one .bool) true]) g_80 mixed Try.func112 (by kernel_rfl) (by kernel_rfl : Try.f112.body = some (codeOf Try.f112))
  rw [e_impl_in] at h
  exact h
noncomputable def fns_112 : List (FuncId × Fn) := (112, F_impl_in) :: fns_80
theorem g_112 : Good Try.prog ⟨tis, fns_112, [], false⟩ := g_80.cons m_impl_in
noncomputable def impl_isCount (n0 : Int) : Option Bool :=
  (impl_in n0 0 1000000).bind fun t4 =>
  some t4
noncomputable def F_impl_isCount : Fn := ⟨[.val false (.one (.int .i64)) false], [.val false (.one .bool) true], fun a => impl_isCount a⟩
def a_impl_isCount : List (Nat × LoopAnn) := []
theorem e_impl_isCount : fnDen ⟨tis, fns_112, [], false⟩ a_impl_isCount Try.f118 (codeOf Try.f118) [.val false (.one (.int .i64)) false] [.val false (.one .bool) true] = fun a => impl_isCount a := by kernel_rfl
theorem m_impl_isCount : Meets Try.prog 118 F_impl_isCount := by
  have h := meets_of (ann := a_impl_isCount) (ps := [.val false (.one (.int .i64)) false]) (rs := [.val false (.one .bool) true]) g_112 mixed Try.func118 (by kernel_rfl) (by kernel_rfl : Try.f118.body = some (codeOf Try.f118))
  rw [e_impl_isCount] at h
  exact h
noncomputable def fns_118 : List (FuncId × Fn) := (118, F_impl_isCount) :: fns_112
theorem g_118 : Good Try.prog ⟨tis, fns_118, [], false⟩ := g_112.cons m_impl_isCount
noncomputable def impl_VecOk (v0 : Vec) : Option Bool :=
  (impl_in v0.1 1 99).bind fun t5 =>
  (cond t5
    ((impl_in v0.2.1 0 100000).bind fun t9 =>
    some t9)
    (some false)).bind fun t10 =>
  (cond t10
    ((impl_in v0.2.2.1 0 10).bind fun t14 =>
    some t14)
    (some false)).bind fun t15 =>
  (cond t15
    ((impl_in v0.2.2.2.1 1 99).bind fun t19 =>
    some t19)
    (some false)).bind fun t20 =>
  (cond t20
    ((impl_in v0.2.2.2.2 0 7).bind fun t24 =>
    some t24)
    (some false)).bind fun t25 =>
  some t25
noncomputable def F_impl_VecOk : Fn := ⟨[.val true cVec false], [.val false (.one .bool) true], fun a => impl_VecOk a⟩
def a_impl_VecOk : List (Nat × LoopAnn) := []
theorem e_impl_VecOk : fnDen ⟨tis, fns_118, [], false⟩ a_impl_VecOk Try.f224 (codeOf Try.f224) [.val true cVec false] [.val false (.one .bool) true] = fun a => impl_VecOk a := by kernel_rfl
theorem m_impl_VecOk : Meets Try.prog 224 F_impl_VecOk := by
  have h := meets_of (ann := a_impl_VecOk) (ps := [.val true cVec false]) (rs := [.val false (.one .bool) true]) g_118 mixed Try.func224 (by kernel_rfl) (by kernel_rfl : Try.f224.body = some (codeOf Try.f224))
  rw [e_impl_VecOk] at h
  exact h
noncomputable def fns_224 : List (FuncId × Fn) := (224, F_impl_VecOk) :: fns_118
theorem g_224 : Good Try.prog ⟨tis, fns_224, [], false⟩ := g_118.cons m_impl_VecOk
noncomputable def impl_PtOk (p0 : Pt) : Option Bool :=
  (impl_in p0.2.1 1 1000).bind fun t5 =>
  (cond (!t5)
    (some true)
    ((cond p0.2.2.1 (some (!p0.1)) (some false)).bind fun t14 =>
    some t14)).bind fun t15 =>
  cond t15
    (some false)
    (cond p0.2.2.1
      ((impl_VecOk p0.2.2.2).bind fun t20 =>
      some t20)
      (let t2 := p0.2.2.2.1 == 0 && (p0.2.2.2.2.1 == 0 && (p0.2.2.2.2.2.1 == 0 && (p0.2.2.2.2.2.2.1 == 0 && (p0.2.2.2.2.2.2.2 == 0))))
      some t2))
noncomputable def F_impl_PtOk : Fn := ⟨[.val true cPt false], [.val false (.one .bool) true], fun a => impl_PtOk a⟩
def a_impl_PtOk : List (Nat × LoopAnn) := []
theorem e_impl_PtOk : fnDen ⟨tis, fns_224, [], false⟩ a_impl_PtOk Try.f161 (codeOf Try.f161) [.val true cPt false] [.val false (.one .bool) true] = fun a => impl_PtOk a := by kernel_rfl
theorem m_impl_PtOk : Meets Try.prog 161 F_impl_PtOk := by
  have h := meets_of (ann := a_impl_PtOk) (ps := [.val true cPt false]) (rs := [.val false (.one .bool) true]) g_224 mixed Try.func161 (by kernel_rfl) (by kernel_rfl : Try.f161.body = some (codeOf Try.f161))
  rw [e_impl_PtOk] at h
  exact h
noncomputable def fns_161 : List (FuncId × Fn) := (161, F_impl_PtOk) :: fns_224
theorem g_161 : Good Try.prog ⟨tis, fns_161, [], false⟩ := g_224.cons m_impl_PtOk
noncomputable def impl_fentOk (e0 : Fent) : Option Bool :=
  (impl_in e0.1 1 99).bind fun t5 =>
  (cond t5
    ((impl_in e0.2.1 1 9999).bind fun t9 =>
    some t9)
    (some false)).bind fun t10 =>
  (cond t10
    ((impl_in e0.2.2.1 0 7).bind fun t14 =>
    some t14)
    (some false)).bind fun t15 =>
  (cond t15
    ((impl_in e0.2.2.2.1 0 4).bind fun t19 =>
    some t19)
    (some false)).bind fun t20 =>
  (cond t20
    ((cond (!e0.2.2.2.2) (some true) (some (e0.2.2.2.1 == 0))).bind fun t29 =>
    some t29)
    (some false)).bind fun t30 =>
  some t30
noncomputable def F_impl_fentOk : Fn := ⟨[.val true cFent false], [.val false (.one .bool) true], fun a => impl_fentOk a⟩
def a_impl_fentOk : List (Nat × LoopAnn) := []
theorem e_impl_fentOk : fnDen ⟨tis, fns_161, [], false⟩ a_impl_fentOk Try.f225 (codeOf Try.f225) [.val true cFent false] [.val false (.one .bool) true] = fun a => impl_fentOk a := by kernel_rfl
theorem m_impl_fentOk : Meets Try.prog 225 F_impl_fentOk := by
  have h := meets_of (ann := a_impl_fentOk) (ps := [.val true cFent false]) (rs := [.val false (.one .bool) true]) g_161 mixed Try.func225 (by kernel_rfl) (by kernel_rfl : Try.f225.body = some (codeOf Try.f225))
  rw [e_impl_fentOk] at h
  exact h
noncomputable def fns_225 : List (FuncId × Fn) := (225, F_impl_fentOk) :: fns_161
theorem g_225 : Good Try.prog ⟨tis, fns_225, [], false⟩ := g_161.cons m_impl_fentOk
noncomputable def impl_behind (e0 : Fent) (tag1 : Int) (mac2 : Int) : Option Bool :=
  (cond (decide (e0.1 > tag1))
    (some true)
    ((cond (e0.1 == tag1) (some (decide (e0.2.1 > mac2))) (some false)).bind fun t21 =>
    some t21)).bind fun t22 =>
  some t22
noncomputable def F_impl_behind : Fn := ⟨[.val true cFent false, .val false (.one (.int .i64)) false, .val false (.one (.int .i64)) false], [.val false (.one .bool) true], fun a => impl_behind a.1 a.2.1 a.2.2⟩
def a_impl_behind : List (Nat × LoopAnn) := []
theorem e_impl_behind : fnDen ⟨tis, fns_225, [], false⟩ a_impl_behind Try.f226 (codeOf Try.f226) [.val true cFent false, .val false (.one (.int .i64)) false, .val false (.one (.int .i64)) false] [.val false (.one .bool) true] = fun a => impl_behind a.1 a.2.1 a.2.2 := by kernel_rfl
theorem m_impl_behind : Meets Try.prog 226 F_impl_behind := by
  have h := meets_of (ann := a_impl_behind) (ps := [.val true cFent false, .val false (.one (.int .i64)) false, .val false (.one (.int .i64)) false]) (rs := [.val false (.one .bool) true]) g_225 mixed Try.func226 (by kernel_rfl) (by kernel_rfl : Try.f226.body = some (codeOf Try.f226))
  rw [e_impl_behind] at h
  exact h
noncomputable def fns_226 : List (FuncId × Fn) := (226, F_impl_behind) :: fns_225
theorem g_226 : Good Try.prog ⟨tis, fns_226, [], false⟩ := g_225.cons m_impl_behind
noncomputable def impl_FdbOk_l0 (l0 : List Fent) (t7 : Int) : Option (Int ⊕ (Unit ⊕ Bool)) :=
  cond (decide (t7 < (l0.length : Int)))
    ((at? l0 t7).bind fun x10 =>
    (impl_fentOk x10).bind fun t13 =>
    (cond (!t13)
      (some true)
      ((cond (decide (t7 > 0))
        ((at? l0 (w64 (t7 - 1))).bind fun x23 =>
        (at? l0 (w64 (t7 - 1))).bind fun x29 =>
        (impl_behind x10 x23.1 x29.2.1).bind fun t32 =>
        some (!t32))
        (some false)).bind fun t34 =>
      some t34)).bind fun t35 =>
    cond t35 (some (.inr (.inr false))) (some (.inl (w64 (t7 + 1)))))
    (some (.inr (.inl ())))
noncomputable def impl_FdbOk (l0 : List Fent) : Option Bool :=
  (loop (fun z => impl_FdbOk_l0 l0 z) 0).bind (Sum.elim (fun d =>
    let t2 := decide ((l0.length : Int) ≤ 12)
    some t2) (fun r => some r))
noncomputable def F_impl_FdbOk : Fn := ⟨[.val false (.one (.sl cFent)) false], [.val false (.one .bool) true], fun a => impl_FdbOk a⟩
def a_impl_FdbOk : List (Nat × LoopAnn) := [(0, ⟨⟨[(7, false, [.dat (.int .i64)]), (16, false, [.undef]), (17, false, [.undef]), (18, false, [.undef]), (19, false, [.undef]), (20, false, [.undef]), (21, false, [.undef]), (22, false, [.undef]), (23, false, [.undef]), (24, false, [.undef]), (25, false, [.undef]), (26, false, [.undef]), (27, false, [.undef]), (28, false, [.undef]), (29, false, [.undef]), (30, false, [.undef]), (31, false, [.undef]), (32, false, [.undef]), (33, false, [.undef]), (34, false, [.undef])], []⟩,
    ⟨[], []⟩, some ⟨[(2, false, [.dat .bool])], []⟩⟩)]
theorem e_impl_FdbOk : fnDen ⟨tis, fns_226, [], false⟩ a_impl_FdbOk Try.f162 (codeOf Try.f162) [.val false (.one (.sl cFent)) false] [.val false (.one .bool) true] = fun a => impl_FdbOk a := by kernel_rfl
theorem m_impl_FdbOk : Meets Try.prog 162 F_impl_FdbOk := by
  have h := meets_of (ann := a_impl_FdbOk) (ps := [.val false (.one (.sl cFent)) false]) (rs := [.val false (.one .bool) true]) g_226 mixed Try.func162 (by kernel_rfl) (by kernel_rfl : Try.f162.body = some (codeOf Try.f162))
  rw [e_impl_FdbOk] at h
  exact h
noncomputable def fns_162 : List (FuncId × Fn) := (162, F_impl_FdbOk) :: fns_226
theorem g_162 : Good Try.prog ⟨tis, fns_162, [], false⟩ := g_226.cons m_impl_FdbOk
noncomputable def impl_allPorts (ports0 : Int) : Option Int :=
  (shl .i64 1 ports0).bind fun t4 =>
  some (w64 (t4 - 1))
noncomputable def F_impl_allPorts : Fn := ⟨[.val false (.one (.int .i64)) false], [.val false (.one (.int .i64)) true], fun a => impl_allPorts a⟩
def a_impl_allPorts : List (Nat × LoopAnn) := []
theorem e_impl_allPorts : fnDen ⟨tis, fns_162, [], false⟩ a_impl_allPorts Try.f227 (codeOf Try.f227) [.val false (.one (.int .i64)) false] [.val false (.one (.int .i64)) true] = fun a => impl_allPorts a := by kernel_rfl
theorem m_impl_allPorts : Meets Try.prog 227 F_impl_allPorts := by
  have h := meets_of (ann := a_impl_allPorts) (ps := [.val false (.one (.int .i64)) false]) (rs := [.val false (.one (.int .i64)) true]) g_162 mixed Try.func227 (by kernel_rfl) (by kernel_rfl : Try.f227.body = some (codeOf Try.f227))
  rw [e_impl_allPorts] at h
  exact h
noncomputable def fns_227 : List (FuncId × Fn) := (227, F_impl_allPorts) :: fns_162
theorem g_227 : Good Try.prog ⟨tis, fns_227, [], false⟩ := g_162.cons m_impl_allPorts
noncomputable def impl_RowAt_l0 (v0 : Vtab) (id1 : Int) (t10 : Int) : Option (Int ⊕ (Unit ⊕ Int)) :=
  cond (decide (t10 < (v0.1.length : Int)))
    ((at? v0.1 t10).bind fun x13 =>
    cond (x13.1 == id1) (some (.inr (.inr t10))) (some (.inl (w64 (t10 + 1)))))
    (some (.inr (.inl ())))
noncomputable def impl_RowAt (v0 : Vtab) (id1 : Int) : Option Int :=
  (loop (fun z => impl_RowAt_l0 v0 id1 z) 0).bind (Sum.elim (fun d =>
    some (-1)) (fun r => some r))
noncomputable def F_impl_RowAt : Fn := ⟨[.val true cVtab false, .val false (.one (.int .i64)) false], [.val false (.one (.int .i64)) true], fun a => impl_RowAt a.1 a.2⟩
def a_impl_RowAt : List (Nat × LoopAnn) := [(0, ⟨⟨[(10, false, [.dat (.int .i64)])], []⟩,
    ⟨[], []⟩, some ⟨[(4, false, [.dat (.int .i64)])], []⟩⟩)]
theorem e_impl_RowAt : fnDen ⟨tis, fns_227, [], false⟩ a_impl_RowAt Try.f228 (codeOf Try.f228) [.val true cVtab false, .val false (.one (.int .i64)) false] [.val false (.one (.int .i64)) true] = fun a => impl_RowAt a.1 a.2 := by kernel_rfl
theorem m_impl_RowAt : Meets Try.prog 228 F_impl_RowAt := by
  have h := meets_of (ann := a_impl_RowAt) (ps := [.val true cVtab false, .val false (.one (.int .i64)) false]) (rs := [.val false (.one (.int .i64)) true]) g_227 mixed Try.func228 (by kernel_rfl) (by kernel_rfl : Try.f228.body = some (codeOf Try.f228))
  rw [e_impl_RowAt] at h
  exact h
noncomputable def fns_228 : List (FuncId × Fn) := (228, F_impl_RowAt) :: fns_227
theorem g_228 : Good Try.prog ⟨tis, fns_228, [], false⟩ := g_227.cons m_impl_RowAt
noncomputable def impl_VtabOk_l0 (p0 : Vtab) (i1 : Int) (t28 : Int) : Option (Int ⊕ (Unit ⊕ Bool)) :=
  cond (decide (t28 < (p0.1.length : Int)))
    ((at? p0.1 t28).bind fun x31 =>
    (impl_in x31.1 1 99).bind fun t35 =>
    (cond (!t35)
      (some true)
      ((cond (decide (t28 > 0))
        ((at? p0.1 (w64 (t28 - 1))).bind fun x45 =>
        some (decide (x45.1 ≥ x31.1)))
        (some false)).bind fun t51 =>
      some t51)).bind fun t52 =>
    (cond t52
      (some true)
      ((impl_allPorts i1).bind fun t57 =>
      (impl_in x31.2.1 0 t57).bind fun t58 =>
      some (!t58))).bind fun t60 =>
    (cond t60 (some true) (some ((bclr .i64 x31.2.2 x31.2.1) != 0))).bind fun t68 =>
    cond t68 (some (.inr (.inr false))) (some (.inl (w64 (t28 + 1)))))
    (some (.inr (.inl ())))
noncomputable def impl_VtabOk_l2 (p0 : Vtab) (t73 : Int) : Option (Int ⊕ (Unit ⊕ Bool)) :=
  cond (decide (t73 < (p0.2.length : Int)))
    ((at? p0.2 t73).bind fun x75 =>
    (impl_RowAt p0 x75).bind fun t79 =>
    cond (decide (t79 < 0)) (some (.inr (.inr false))) (some (.inl (w64 (t73 + 1)))))
    (some (.inr (.inl ())))
noncomputable def impl_VtabOk (p0 : Vtab) (i1 : Int) : Option Bool :=
  (impl_in i1 1 6).bind fun t10 =>
  (cond (!t10) (some true) (some ((p0.2.length : Int) != i1))).bind fun t18 =>
  (cond t18 (some true) (some (decide ((p0.1.length : Int) > 6)))).bind fun t24 =>
  cond t24
    (some false)
    ((loop (fun z => impl_VtabOk_l0 p0 i1 z) 0).bind (Sum.elim (fun d =>
      (loop (fun z => impl_VtabOk_l2 p0 z) 0).bind (Sum.elim (fun d_1 =>
        some true) (fun r => some r))) (fun r_1 => some r_1)))
noncomputable def F_impl_VtabOk : Fn := ⟨[.val true cVtab false, .val false (.one (.int .i64)) false], [.val false (.one .bool) true], fun a => impl_VtabOk a.1 a.2⟩
def a_impl_VtabOk : List (Nat × LoopAnn) := [(0, ⟨⟨[(28, false, [.dat (.int .i64)]), (38, false, [.undef]), (39, false, [.undef]), (40, false, [.undef]), (41, false, [.undef]), (42, false, [.undef]), (43, false, [.undef]), (44, false, [.undef]), (45, false, [.undef]), (46, false, [.undef]), (47, false, [.undef]), (48, false, [.undef]), (49, false, [.undef]), (50, false, [.undef]), (51, false, [.undef]), (54, false, [.undef]), (55, false, [.undef]), (56, false, [.undef]), (57, false, [.undef]), (58, false, [.undef]), (59, false, [.undef]), (62, false, [.undef]), (63, false, [.undef]), (64, false, [.undef]), (65, false, [.undef]), (66, false, [.undef]), (67, false, [.undef])], []⟩,
    ⟨[], []⟩, some ⟨[(4, false, [.dat .bool])], []⟩⟩),
  (2, ⟨⟨[(73, false, [.dat (.int .i64)])], []⟩,
    ⟨[], []⟩, some ⟨[(4, false, [.dat .bool])], []⟩⟩)]
theorem e_impl_VtabOk : fnDen ⟨tis, fns_228, [], false⟩ a_impl_VtabOk Try.f163 (codeOf Try.f163) [.val true cVtab false, .val false (.one (.int .i64)) false] [.val false (.one .bool) true] = fun a => impl_VtabOk a.1 a.2 := by kernel_rfl
theorem m_impl_VtabOk : Meets Try.prog 163 F_impl_VtabOk := by
  have h := meets_of (ann := a_impl_VtabOk) (ps := [.val true cVtab false, .val false (.one (.int .i64)) false]) (rs := [.val false (.one .bool) true]) g_228 mixed Try.func163 (by kernel_rfl) (by kernel_rfl : Try.f163.body = some (codeOf Try.f163))
  rw [e_impl_VtabOk] at h
  exact h
noncomputable def fns_163 : List (FuncId × Fn) := (163, F_impl_VtabOk) :: fns_228
theorem g_163 : Good Try.prog ⟨tis, fns_163, [], false⟩ := g_228.cons m_impl_VtabOk
noncomputable def impl_BridgeOk_l0 (p0 : Bridge) (t8 : Int) : Option (Int ⊕ (Unit ⊕ Bool)) :=
  cond (decide (t8 < (p0.2.2.1.length : Int)))
    ((at? p0.2.2.1 t8).bind fun x10 =>
    (impl_PtOk x10).bind fun t13 =>
    cond (!t13) (some (.inr (.inr false))) (some (.inl (w64 (t8 + 1)))))
    (some (.inr (.inl ())))
noncomputable def impl_BridgeOk (p0 : Bridge) : Option Bool :=
  (loop (fun z => impl_BridgeOk_l0 p0 z) 0).bind (Sum.elim (fun d =>
    (impl_in p0.1 1 99).bind fun t18 =>
    (cond (!t18) (some true) (some (decide ((p0.2.1.length : Int) > 10)))).bind fun t25 =>
    (cond t25
      (some true)
      ((impl_in (p0.2.2.1.length : Int) 1 6).bind fun t30 =>
      some (!t30))).bind fun t32 =>
    (cond t32
      (some true)
      ((impl_FdbOk p0.2.2.2.1).bind fun t36 =>
      some (!t36))).bind fun t38 =>
    (cond t38
      (some true)
      ((impl_VtabOk (p0.2.2.2.2.1, p0.2.2.2.2.2.1) (p0.2.2.1.length : Int)).bind fun t45 =>
      some (!t45))).bind fun t47 =>
    cond t47
      (some false)
      ((impl_isCount p0.2.2.2.2.2.2.1).bind fun t50 =>
      (cond t50
        ((impl_isCount p0.2.2.2.2.2.2.2.1).bind fun t54 =>
        some t54)
        (some false)).bind fun t55 =>
      (cond t55
        ((impl_isCount p0.2.2.2.2.2.2.2.2.1).bind fun t59 =>
        some t59)
        (some false)).bind fun t60 =>
      (cond t60
        ((impl_isCount p0.2.2.2.2.2.2.2.2.2.1).bind fun t64 =>
        some t64)
        (some false)).bind fun t65 =>
      (cond t65
        ((impl_isCount p0.2.2.2.2.2.2.2.2.2.2).bind fun t69 =>
        some t69)
        (some false)).bind fun t70 =>
      some t70)) (fun r => some r))
noncomputable def F_impl_BridgeOk : Fn := ⟨[.val true cBridge false], [.val false (.one .bool) true], fun a => impl_BridgeOk a⟩
def a_impl_BridgeOk : List (Nat × LoopAnn) := [(0, ⟨⟨[(8, false, [.dat (.int .i64)])], []⟩,
    ⟨[], []⟩, some ⟨[(2, false, [.dat .bool])], []⟩⟩)]
theorem e_impl_BridgeOk : fnDen ⟨tis, fns_163, [], false⟩ a_impl_BridgeOk Try.f81 (codeOf Try.f81) [.val true cBridge false] [.val false (.one .bool) true] = fun a => impl_BridgeOk a := by kernel_rfl
theorem m_impl_BridgeOk : Meets Try.prog 81 F_impl_BridgeOk := by
  have h := meets_of (ann := a_impl_BridgeOk) (ps := [.val true cBridge false]) (rs := [.val false (.one .bool) true]) g_163 mixed Try.func81 (by kernel_rfl) (by kernel_rfl : Try.f81.body = some (codeOf Try.f81))
  rw [e_impl_BridgeOk] at h
  exact h
noncomputable def fns_81 : List (FuncId × Fn) := (81, F_impl_BridgeOk) :: fns_163
theorem g_81 : Good Try.prog ⟨tis, fns_81, [], false⟩ := g_163.cons m_impl_BridgeOk
noncomputable def impl_SameOid_l0 (a0 : List Int) (b1 : List Int) (t13 : Int) : Option (Int ⊕ (Unit ⊕ Bool)) :=
  cond (decide (t13 < (a0.length : Int)))
    ((at? a0 t13).bind fun x18 =>
    (at? b1 t13).bind fun x22 =>
    cond (x18 != x22) (some (.inr (.inr false))) (some (.inl (w64 (t13 + 1)))))
    (some (.inr (.inl ())))
noncomputable def impl_SameOid (a0 : List Int) (b1 : List Int) : Option Bool :=
  cond ((a0.length : Int) != (b1.length : Int))
    (some false)
    ((loop (fun z => impl_SameOid_l0 a0 b1 z) 0).bind (Sum.elim (fun d =>
      some true) (fun r => some r)))
noncomputable def F_impl_SameOid : Fn := ⟨[.val false (.one (.sl (.one (.int .i64)))) false, .val false (.one (.sl (.one (.int .i64)))) false], [.val false (.one .bool) true], fun a => impl_SameOid a.1 a.2⟩
def a_impl_SameOid : List (Nat × LoopAnn) := [(0, ⟨⟨[(13, false, [.dat (.int .i64)])], []⟩,
    ⟨[], []⟩, some ⟨[(4, false, [.dat .bool])], []⟩⟩)]
theorem e_impl_SameOid : fnDen ⟨tis, fns_81, [], false⟩ a_impl_SameOid Try.f38 (codeOf Try.f38) [.val false (.one (.sl (.one (.int .i64)))) false, .val false (.one (.sl (.one (.int .i64)))) false] [.val false (.one .bool) true] = fun a => impl_SameOid a.1 a.2 := by kernel_rfl
theorem m_impl_SameOid : Meets Try.prog 38 F_impl_SameOid := by
  have h := meets_of (ann := a_impl_SameOid) (ps := [.val false (.one (.sl (.one (.int .i64)))) false, .val false (.one (.sl (.one (.int .i64)))) false]) (rs := [.val false (.one .bool) true]) g_81 mixed Try.func38 (by kernel_rfl) (by kernel_rfl : Try.f38.body = some (codeOf Try.f38))
  rw [e_impl_SameOid] at h
  exact h
noncomputable def fns_38 : List (FuncId × Fn) := (38, F_impl_SameOid) :: fns_81
theorem g_38 : Good Try.prog ⟨tis, fns_38, [], false⟩ := g_81.cons m_impl_SameOid
noncomputable def impl_numbered (o0 : List Int) (low1 : Int) (high2 : Int) (head3 : List Int) : Option Bool :=
  cond ((o0.length : Int) == (w64 ((head3.length : Int) + 4)))
    ((cut o0 0 (w64 ((o0.length : Int) - 1))).bind fun t20 =>
    (app ([1, 3, 1] : List Int) head3).bind fun zs23 =>
    (impl_SameOid t20 zs23).bind fun t24 =>
    (cond t24
      ((at? o0 (w64 ((o0.length : Int) - 1))).bind fun x31 =>
      (impl_in x31 low1 high2).bind fun t35 =>
      some t35)
      (some false)).bind fun t36 =>
    some t36)
    ((some false).bind fun t36_1 =>
    some t36_1)
noncomputable def F_impl_numbered : Fn := ⟨[.val false (.one (.sl (.one (.int .i64)))) false, .val false (.one (.int .i64)) false, .val false (.one (.int .i64)) false, .val false (.one (.sl (.one (.int .i64)))) false], [.val false (.one .bool) true], fun a => impl_numbered a.1 a.2.1 a.2.2.1 a.2.2.2⟩
def a_impl_numbered : List (Nat × LoopAnn) := []
theorem e_impl_numbered : fnDen ⟨tis, fns_38, [], false⟩ a_impl_numbered Try.f229 (codeOf Try.f229) [.val false (.one (.sl (.one (.int .i64)))) false, .val false (.one (.int .i64)) false, .val false (.one (.int .i64)) false, .val false (.one (.sl (.one (.int .i64)))) false] [.val false (.one .bool) true] = fun a => impl_numbered a.1 a.2.1 a.2.2.1 a.2.2.2 := by kernel_rfl
theorem m_impl_numbered : Meets Try.prog 229 F_impl_numbered := by
  have h := meets_of (ann := a_impl_numbered) (ps := [.val false (.one (.sl (.one (.int .i64)))) false, .val false (.one (.int .i64)) false, .val false (.one (.int .i64)) false, .val false (.one (.sl (.one (.int .i64)))) false]) (rs := [.val false (.one .bool) true]) g_38 mixed Try.func229 (by kernel_rfl) (by kernel_rfl : Try.f229.body = some (codeOf Try.f229))
  rw [e_impl_numbered] at h
  exact h
noncomputable def fns_229 : List (FuncId × Fn) := (229, F_impl_numbered) :: fns_38
theorem g_229 : Good Try.prog ⟨tis, fns_229, [], false⟩ := g_38.cons m_impl_numbered
noncomputable def impl_canSet (b0 : Bridge) (o1 : List Int) : Option Bool :=
  (impl_numbered o1 1 1 ([1] : List Int)).bind fun t11 =>
  (cond t11
    (some true)
    ((impl_numbered o1 1 (b0.2.2.1.length : Int) ([2, 2] : List Int)).bind fun t16 =>
    some t16)).bind fun t17 =>
  (cond t17
    (some true)
    ((impl_numbered o1 1 (b0.2.2.1.length : Int) ([2, 4] : List Int)).bind fun t22 =>
    some t22)).bind fun t23 =>
  (cond t23
    (some true)
    ((impl_numbered o1 1 99 ([3, 1] : List Int)).bind fun t27 =>
    some t27)).bind fun t28 =>
  cond t28
    (some true)
    ((impl_numbered o1 1 99 ([3, 2] : List Int)).bind fun t31 =>
    (cond t31
      (some true)
      ((impl_numbered o1 1 99 ([3, 3] : List Int)).bind fun t35 =>
      some t35)).bind fun t36 =>
    (cond t36
      ((at? o1 5).bind fun x41 =>
      (impl_RowAt (b0.2.2.2.2.1, b0.2.2.2.2.2.1) x41).bind fun t43 =>
      some (decide (t43 ≥ 0)))
      (some false)).bind fun t45 =>
    some t45)
noncomputable def F_impl_canSet : Fn := ⟨[.val true cBridge false, .val false (.one (.sl (.one (.int .i64)))) false], [.val false (.one .bool) true], fun a => impl_canSet a.1 a.2⟩
def a_impl_canSet : List (Nat × LoopAnn) := []
theorem e_impl_canSet : fnDen ⟨tis, fns_229, [], false⟩ a_impl_canSet Try.f164 (codeOf Try.f164) [.val true cBridge false, .val false (.one (.sl (.one (.int .i64)))) false] [.val false (.one .bool) true] = fun a => impl_canSet a.1 a.2 := by kernel_rfl
theorem m_impl_canSet : Meets Try.prog 164 F_impl_canSet := by
  have h := meets_of (ann := a_impl_canSet) (ps := [.val true cBridge false, .val false (.one (.sl (.one (.int .i64)))) false]) (rs := [.val false (.one .bool) true]) g_229 mixed Try.func164 (by kernel_rfl) (by kernel_rfl : Try.f164.body = some (codeOf Try.f164))
  rw [e_impl_canSet] at h
  exact h
noncomputable def fns_164 : List (FuncId × Fn) := (164, F_impl_canSet) :: fns_229
theorem g_164 : Good Try.prog ⟨tis, fns_164, [], false⟩ := g_229.cons m_impl_canSet
noncomputable def impl_withRow_l0 (v0 : Vtab) (r1 : Vrow) (k7 : Int) : Option (Int ⊕ Int) :=
  (cond (decide (k7 < (v0.1.length : Int)))
    ((at? v0.1 k7).bind fun x31 =>
    some (decide (x31.1 ≤ r1.1)))
    (some false)).bind fun t37 =>
  cond t37 (some (.inl (w64 (k7 + 1)))) (some (.inr k7))
noncomputable def impl_withRow (v0 : Vtab) (r1 : Vrow) : Option Vtab :=
  (impl_copyVtab v0).bind fun t9 =>
  (impl_RowAt v0 r1.1).bind fun t13 =>
  cond (decide (t13 ≥ 0))
    ((ix t9.1.length t13).bind fun j20 =>
    (t9.1[j20]?).bind fun x =>
    some (t9.1.set j20 r1, t9.2))
    ((loop (fun z => impl_withRow_l0 v0 r1 z) 0).bind fun d =>
    (cut v0.1 0 d).bind fun t43 =>
    (app [] t43).bind fun zs44 =>
    (app zs44 [r1]).bind fun zs47 =>
    (cut v0.1 d (v0.1.length : Int)).bind fun t51 =>
    (app zs47 t51).bind fun zs52 =>
    some (zs52, t9.2))
noncomputable def F_impl_withRow : Fn := ⟨[.val true cVtab false, .val true cVrow false], [.val true cVtab true], fun a => impl_withRow a.1 a.2⟩
def a_impl_withRow : List (Nat × LoopAnn) := [(0, ⟨⟨[(7, false, [.dat (.int .i64)]), (28, false, [.undef]), (29, false, [.undef]), (30, false, [.undef]), (31, false, [.undef]), (32, false, [.undef]), (33, false, [.undef]), (34, false, [.undef]), (35, false, [.undef]), (36, false, [.undef])], []⟩,
    ⟨[(7, false, [.dat (.int .i64)])], []⟩, none⟩)]
theorem e_impl_withRow : fnDen ⟨tis, fns_164, [], false⟩ a_impl_withRow Try.f266 (codeOf Try.f266) [.val true cVtab false, .val true cVrow false] [.val true cVtab true] = fun a => impl_withRow a.1 a.2 := by kernel_rfl
theorem m_impl_withRow : Meets Try.prog 266 F_impl_withRow := by
  have h := meets_of (ann := a_impl_withRow) (ps := [.val true cVtab false, .val true cVrow false]) (rs := [.val true cVtab true]) g_164 mixed Try.func266 (by kernel_rfl) (by kernel_rfl : Try.f266.body = some (codeOf Try.f266))
  rw [e_impl_withRow] at h
  exact h
noncomputable def fns_266 : List (FuncId × Fn) := (266, F_impl_withRow) :: fns_164
theorem g_266 : Good Try.prog ⟨tis, fns_266, [], false⟩ := g_164.cons m_impl_withRow
noncomputable def impl_withoutRow (v0 : Vtab) (id1 : Int) : Option Vtab :=
  (impl_copyVtab v0).bind fun t8 =>
  (impl_RowAt v0 id1).bind fun t11 =>
  cond (decide (t11 ≥ 0))
    ((cut v0.1 0 t11).bind fun t17 =>
    (app [] t17).bind fun zs18 =>
    (cut v0.1 (w64 (t11 + 1)) (v0.1.length : Int)).bind fun t23 =>
    (app zs18 t23).bind fun zs24 =>
    some (zs24, t8.2))
    (some t8)
noncomputable def F_impl_withoutRow : Fn := ⟨[.val true cVtab false, .val false (.one (.int .i64)) false], [.val true cVtab true], fun a => impl_withoutRow a.1 a.2⟩
def a_impl_withoutRow : List (Nat × LoopAnn) := []
theorem e_impl_withoutRow : fnDen ⟨tis, fns_266, [], false⟩ a_impl_withoutRow Try.f267 (codeOf Try.f267) [.val true cVtab false, .val false (.one (.int .i64)) false] [.val true cVtab true] = fun a => impl_withoutRow a.1 a.2 := by kernel_rfl
theorem m_impl_withoutRow : Meets Try.prog 267 F_impl_withoutRow := by
  have h := meets_of (ann := a_impl_withoutRow) (ps := [.val true cVtab false, .val false (.one (.int .i64)) false]) (rs := [.val true cVtab true]) g_266 mixed Try.func267 (by kernel_rfl) (by kernel_rfl : Try.f267.body = some (codeOf Try.f267))
  rw [e_impl_withoutRow] at h
  exact h
noncomputable def fns_267 : List (FuncId × Fn) := (267, F_impl_withoutRow) :: fns_266
theorem g_267 : Good Try.prog ⟨tis, fns_267, [], false⟩ := g_266.cons m_impl_withoutRow
noncomputable def impl_Bridge_setRow (p0 : Bridge) (i1 : Int) (a2 : Int) (a3 : Int) : Option (Bridge × Int) :=
  (impl_RowAt (p0.2.2.2.2.1, p0.2.2.2.2.2.1) a2).bind fun t15 =>
  cond (i1 == 1)
    ((cond (a3 == 4) (some (decide (t15 < 0))) (some false)).bind fun t24 =>
    (cond t24 (some (decide ((p0.2.2.2.2.1.length : Int) < 6))) (some false)).bind fun t33 =>
    cond t33
      ((impl_withRow (p0.2.2.2.2.1, p0.2.2.2.2.2.1) (a2, 0, 0)).bind fun t41 =>
      some ((p0.1, p0.2.1, p0.2.2.1, p0.2.2.2.1, t41.1, t41.2, p0.2.2.2.2.2.2.1, p0.2.2.2.2.2.2.2.1, p0.2.2.2.2.2.2.2.2.1, p0.2.2.2.2.2.2.2.2.2.1, p0.2.2.2.2.2.2.2.2.2.2), 0))
      ((cond (a3 == 6) (some (decide (t15 ≥ 0))) (some false)).bind fun t50 =>
      cond t50
        ((impl_withoutRow (p0.2.2.2.2.1, p0.2.2.2.2.2.1) a2).bind fun t57 =>
        some ((p0.1, p0.2.1, p0.2.2.1, p0.2.2.2.1, t57.1, t57.2, p0.2.2.2.2.2.2.1, p0.2.2.2.2.2.2.2.1, p0.2.2.2.2.2.2.2.2.1, p0.2.2.2.2.2.2.2.2.2.1, p0.2.2.2.2.2.2.2.2.2.2), 0))
        (some (p0, 2))))
    ((impl_allPorts (p0.2.2.1.length : Int)).bind fun t66 =>
    (impl_in a3 0 t66).bind fun t67 =>
    cond (!t67)
      (some (p0, 2))
      (cond (i1 == 2)
        ((ix p0.2.2.2.2.1.length t15).bind fun j78 =>
        (p0.2.2.2.2.1[j78]?).bind fun x =>
        some ((p0.1, p0.2.1, p0.2.2.1, p0.2.2.2.1, p0.2.2.2.2.1.set j78 (x.1, a3, x.2.2), p0.2.2.2.2.2.1, p0.2.2.2.2.2.2.1, p0.2.2.2.2.2.2.2.1, p0.2.2.2.2.2.2.2.2.1, p0.2.2.2.2.2.2.2.2.2.1, p0.2.2.2.2.2.2.2.2.2.2), 0))
        ((ix p0.2.2.2.2.1.length t15).bind fun j87 =>
        (p0.2.2.2.2.1[j87]?).bind fun x_1 =>
        some ((p0.1, p0.2.1, p0.2.2.1, p0.2.2.2.1, p0.2.2.2.2.1.set j87 (x_1.1, x_1.2.1, a3), p0.2.2.2.2.2.1, p0.2.2.2.2.2.2.1, p0.2.2.2.2.2.2.2.1, p0.2.2.2.2.2.2.2.2.1, p0.2.2.2.2.2.2.2.2.2.1, p0.2.2.2.2.2.2.2.2.2.2), 0))))
noncomputable def F_impl_Bridge_setRow : Fn := ⟨[.ptr cBridge true, .val false (.one (.int .i64)) false, .val false (.one (.int .i64)) false, .val false (.one (.int .i64)) false], [.val false (.one (.int .i64)) true], fun a => impl_Bridge_setRow a.1 a.2.1 a.2.2.1 a.2.2.2⟩
def a_impl_Bridge_setRow : List (Nat × LoopAnn) := []
theorem e_impl_Bridge_setRow : fnDen ⟨tis, fns_267, [], false⟩ a_impl_Bridge_setRow Try.f230 (codeOf Try.f230) [.ptr cBridge true, .val false (.one (.int .i64)) false, .val false (.one (.int .i64)) false, .val false (.one (.int .i64)) false] [.val false (.one (.int .i64)) true] = fun a => impl_Bridge_setRow a.1 a.2.1 a.2.2.1 a.2.2.2 := by kernel_rfl
theorem m_impl_Bridge_setRow : Meets Try.prog 230 F_impl_Bridge_setRow := by
  have h := meets_of (ann := a_impl_Bridge_setRow) (ps := [.ptr cBridge true, .val false (.one (.int .i64)) false, .val false (.one (.int .i64)) false, .val false (.one (.int .i64)) false]) (rs := [.val false (.one (.int .i64)) true]) g_267 mixed Try.func230 (by kernel_rfl) (by kernel_rfl : Try.f230.body = some (codeOf Try.f230))
  rw [e_impl_Bridge_setRow] at h
  exact h
noncomputable def fns_230 : List (FuncId × Fn) := (230, F_impl_Bridge_setRow) :: fns_267
theorem g_230 : Good Try.prog ⟨tis, fns_230, [], false⟩ := g_267.cons m_impl_Bridge_setRow
noncomputable def impl_Bridge_setThing (p0 : Bridge) (i1 : List Int) (a2 : Val) : Option (Bridge × Int) :=
  (at? i1 3).bind fun x9 =>
  (cond (x9 == 1) (some (a2.1 != 4)) (some false)).bind fun t17 =>
  (cond t17
    (some true)
    ((cond (!(x9 == 1)) (some (a2.1 != 2)) (some false)).bind fun t25 =>
    some t25)).bind fun t26 =>
  cond t26
    (some (p0, 1))
    (cond (x9 == 1)
      (cond (decide ((a2.2.2.1.length : Int) > 10))
        (some (p0, 2))
        (some ((p0.1, a2.2.2.1, p0.2.2.1, p0.2.2.2.1, p0.2.2.2.2.1, p0.2.2.2.2.2.1, p0.2.2.2.2.2.2.1, p0.2.2.2.2.2.2.2.1, p0.2.2.2.2.2.2.2.2.1, p0.2.2.2.2.2.2.2.2.2.1, p0.2.2.2.2.2.2.2.2.2.2), 0)))
      ((at? i1 3).bind fun x52 =>
      cond (x52 == 3)
        ((at? i1 4).bind fun x57 =>
        (at? i1 5).bind fun x60 =>
        (impl_Bridge_setRow p0 x57 x60 a2.2.1).bind fun t64 =>
        some t64)
        ((at? i1 4).bind fun x67 =>
        cond (x67 == 2)
          ((impl_in a2.2.1 1 1000).bind fun t72 =>
          cond (!t72)
            (some (p0, 2))
            ((at? i1 5).bind fun x79 =>
            (ix p0.2.2.1.length (w64 (x79 - 1))).bind fun j84 =>
            (p0.2.2.1[j84]?).bind fun x =>
            some ((p0.1, p0.2.1, p0.2.2.1.set j84 (x.1, a2.2.1, x.2.2.1, x.2.2.2.1, x.2.2.2.2.1, x.2.2.2.2.2.1, x.2.2.2.2.2.2.1, x.2.2.2.2.2.2.2), p0.2.2.2.1, p0.2.2.2.2.1, p0.2.2.2.2.2.1, p0.2.2.2.2.2.2.1, p0.2.2.2.2.2.2.2.1, p0.2.2.2.2.2.2.2.2.1, p0.2.2.2.2.2.2.2.2.2.1, p0.2.2.2.2.2.2.2.2.2.2), 0)))
          ((at? i1 5).bind fun x33 =>
          (ix p0.2.2.2.2.2.1.length (w64 (x33 - 1))).bind fun j38 =>
          (p0.2.2.2.2.2.1[j38]?).bind fun x_1 =>
          some ((p0.1, p0.2.1, p0.2.2.1, p0.2.2.2.1, p0.2.2.2.2.1, p0.2.2.2.2.2.1.set j38 a2.2.1, p0.2.2.2.2.2.2.1, p0.2.2.2.2.2.2.2.1, p0.2.2.2.2.2.2.2.2.1, p0.2.2.2.2.2.2.2.2.2.1, p0.2.2.2.2.2.2.2.2.2.2), 0)))))
noncomputable def F_impl_Bridge_setThing : Fn := ⟨[.ptr cBridge true, .val false (.one (.sl (.one (.int .i64)))) false, .val true cVal false], [.val false (.one (.int .i64)) true], fun a => impl_Bridge_setThing a.1 a.2.1 a.2.2⟩
def a_impl_Bridge_setThing : List (Nat × LoopAnn) := []
theorem e_impl_Bridge_setThing : fnDen ⟨tis, fns_230, [], false⟩ a_impl_Bridge_setThing Try.f165 (codeOf Try.f165) [.ptr cBridge true, .val false (.one (.sl (.one (.int .i64)))) false, .val true cVal false] [.val false (.one (.int .i64)) true] = fun a => impl_Bridge_setThing a.1 a.2.1 a.2.2 := by kernel_rfl
theorem m_impl_Bridge_setThing : Meets Try.prog 165 F_impl_Bridge_setThing := by
  have h := meets_of (ann := a_impl_Bridge_setThing) (ps := [.ptr cBridge true, .val false (.one (.sl (.one (.int .i64)))) false, .val true cVal false]) (rs := [.val false (.one (.int .i64)) true]) g_230 mixed Try.func165 (by kernel_rfl) (by kernel_rfl : Try.f165.body = some (codeOf Try.f165))
  rw [e_impl_Bridge_setThing] at h
  exact h
noncomputable def fns_165 : List (FuncId × Fn) := (165, F_impl_Bridge_setThing) :: fns_230
theorem g_165 : Good Try.prog ⟨tis, fns_165, [], false⟩ := g_230.cons m_impl_Bridge_setThing
noncomputable def impl_entAt_l0 (l0 : List Fent) (tag1 : Int) (mac2 : Int) (t11 : Int) : Option (Int ⊕ (Unit ⊕ Int)) :=
  cond (decide (t11 < (l0.length : Int)))
    ((at? l0 t11).bind fun x14 =>
    (cond (x14.1 == tag1) (some (x14.2.1 == mac2)) (some false)).bind fun t25 =>
    cond t25 (some (.inr (.inr t11))) (some (.inl (w64 (t11 + 1)))))
    (some (.inr (.inl ())))
noncomputable def impl_entAt (l0 : List Fent) (tag1 : Int) (mac2 : Int) : Option Int :=
  (loop (fun z => impl_entAt_l0 l0 tag1 mac2 z) 0).bind (Sum.elim (fun d =>
    some (-1)) (fun r => some r))
noncomputable def F_impl_entAt : Fn := ⟨[.val false (.one (.sl cFent)) false, .val false (.one (.int .i64)) false, .val false (.one (.int .i64)) false], [.val false (.one (.int .i64)) true], fun a => impl_entAt a.1 a.2.1 a.2.2⟩
def a_impl_entAt : List (Nat × LoopAnn) := [(0, ⟨⟨[(11, false, [.dat (.int .i64)]), (21, false, [.undef]), (22, false, [.undef]), (23, false, [.undef]), (24, false, [.undef])], []⟩,
    ⟨[], []⟩, some ⟨[(6, false, [.dat (.int .i64)])], []⟩⟩)]
theorem e_impl_entAt : fnDen ⟨tis, fns_165, [], false⟩ a_impl_entAt Try.f231 (codeOf Try.f231) [.val false (.one (.sl cFent)) false, .val false (.one (.int .i64)) false, .val false (.one (.int .i64)) false] [.val false (.one (.int .i64)) true] = fun a => impl_entAt a.1 a.2.1 a.2.2 := by kernel_rfl
theorem m_impl_entAt : Meets Try.prog 231 F_impl_entAt := by
  have h := meets_of (ann := a_impl_entAt) (ps := [.val false (.one (.sl cFent)) false, .val false (.one (.int .i64)) false, .val false (.one (.int .i64)) false]) (rs := [.val false (.one (.int .i64)) true]) g_165 mixed Try.func231 (by kernel_rfl) (by kernel_rfl : Try.f231.body = some (codeOf Try.f231))
  rw [e_impl_entAt] at h
  exact h
noncomputable def fns_231 : List (FuncId × Fn) := (231, F_impl_entAt) :: fns_165
theorem g_231 : Good Try.prog ⟨tis, fns_231, [], false⟩ := g_165.cons m_impl_entAt
noncomputable def impl_canRead (b0 : Bridge) (o1 : List Int) : Option Bool :=
  (impl_numbered o1 2 5 ([1] : List Int)).bind fun t11 =>
  (cond t11
    (some true)
    ((impl_numbered o1 1 (b0.2.2.1.length : Int) ([2, 1] : List Int)).bind fun t16 =>
    some t16)).bind fun t17 =>
  (cond t17
    (some true)
    ((impl_numbered o1 1 (b0.2.2.1.length : Int) ([2, 3] : List Int)).bind fun t22 =>
    some t22)).bind fun t23 =>
  cond t23
    (some true)
    ((cond ((o1.length : Int) == 7)
      ((cut o1 0 5).bind fun t29 =>
      (impl_SameOid t29 ([1, 3, 1, 4, 1] : List Int)).bind fun t31 =>
      some t31)
      (some false)).bind fun t32 =>
    (cond t32
      ((at? o1 5).bind fun x37 =>
      (at? o1 6).bind fun x40 =>
      (impl_entAt b0.2.2.2.1 x37 x40).bind fun t42 =>
      some (decide (t42 ≥ 0)))
      (some false)).bind fun t44 =>
    some t44)
noncomputable def F_impl_canRead : Fn := ⟨[.val true cBridge false, .val false (.one (.sl (.one (.int .i64)))) false], [.val false (.one .bool) true], fun a => impl_canRead a.1 a.2⟩
def a_impl_canRead : List (Nat × LoopAnn) := []
theorem e_impl_canRead : fnDen ⟨tis, fns_231, [], false⟩ a_impl_canRead Try.f166 (codeOf Try.f166) [.val true cBridge false, .val false (.one (.sl (.one (.int .i64)))) false] [.val false (.one .bool) true] = fun a => impl_canRead a.1 a.2 := by kernel_rfl
theorem m_impl_canRead : Meets Try.prog 166 F_impl_canRead := by
  have h := meets_of (ann := a_impl_canRead) (ps := [.val true cBridge false, .val false (.one (.sl (.one (.int .i64)))) false]) (rs := [.val false (.one .bool) true]) g_231 mixed Try.func166 (by kernel_rfl) (by kernel_rfl : Try.f166.body = some (codeOf Try.f166))
  rw [e_impl_canRead] at h
  exact h
noncomputable def fns_166 : List (FuncId × Fn) := (166, F_impl_canRead) :: fns_231
theorem g_166 : Good Try.prog ⟨tis, fns_166, [], false⟩ := g_231.cons m_impl_canRead
noncomputable def impl_Bridge_set (b0 : Bridge) (x1 : Bind) : Option (Bridge × Int) :=
  (impl_canSet b0 x1.1).bind fun t11 =>
  cond t11
    ((impl_Bridge_setThing b0 x1.1 x1.2).bind fun t17 =>
    some t17)
    ((impl_canRead b0 x1.1).bind fun t24 =>
    cond t24 (some (b0, 4)) (some (b0, 3)))
noncomputable def F_impl_Bridge_set : Fn := ⟨[.ptr cBridge true, .val true cBind false], [.val false (.one (.int .i64)) true], fun a => impl_Bridge_set a.1 a.2⟩
def a_impl_Bridge_set : List (Nat × LoopAnn) := []
theorem e_impl_Bridge_set : fnDen ⟨tis, fns_166, [], false⟩ a_impl_Bridge_set Try.f82 (codeOf Try.f82) [.ptr cBridge true, .val true cBind false] [.val false (.one (.int .i64)) true] = fun a => impl_Bridge_set a.1 a.2 := by kernel_rfl
theorem m_impl_Bridge_set : Meets Try.prog 82 F_impl_Bridge_set := by
  have h := meets_of (ann := a_impl_Bridge_set) (ps := [.ptr cBridge true, .val true cBind false]) (rs := [.val false (.one (.int .i64)) true]) g_166 mixed Try.func82 (by kernel_rfl) (by kernel_rfl : Try.f82.body = some (codeOf Try.f82))
  rw [e_impl_Bridge_set] at h
  exact h
noncomputable def fns_82 : List (FuncId × Fn) := (82, F_impl_Bridge_set) :: fns_166
theorem g_82 : Good Try.prog ⟨tis, fns_82, [], false⟩ := g_166.cons m_impl_Bridge_set
noncomputable def impl_SetOne (b0 : Bridge) (x1 : Bind) : Option (Bridge × Int) :=
  (impl_copyBridge b0).bind fun t9 =>
  (impl_BridgeOk b0).bind fun t11 =>
  cond (!t11)
    (some (t9, 3))
    ((impl_Bridge_set t9 x1).bind fun t15 =>
    cond (t15.2 != 0)
      ((impl_copyBridge b0).bind fun t19 =>
      some (t19, t15.2))
      (some (t15.1, 0)))
noncomputable def F_impl_SetOne : Fn := ⟨[.val true cBridge false, .val true cBind false], [.val true cBridge true, .val false (.one (.int .i64)) true], fun a => impl_SetOne a.1 a.2⟩
def a_impl_SetOne : List (Nat × LoopAnn) := []
theorem e_impl_SetOne : fnDen ⟨tis, fns_82, [], false⟩ a_impl_SetOne Try.f21 (codeOf Try.f21) [.val true cBridge false, .val true cBind false] [.val true cBridge true, .val false (.one (.int .i64)) true] = fun a => impl_SetOne a.1 a.2 := by kernel_rfl
theorem m_impl_SetOne : Meets Try.prog 21 F_impl_SetOne := by
  have h := meets_of (ann := a_impl_SetOne) (ps := [.val true cBridge false, .val true cBind false]) (rs := [.val true cBridge true, .val false (.one (.int .i64)) true]) g_82 mixed Try.func21 (by kernel_rfl) (by kernel_rfl : Try.f21.body = some (codeOf Try.f21))
  rw [e_impl_SetOne] at h
  exact h
noncomputable def fns_21 : List (FuncId × Fn) := (21, F_impl_SetOne) :: fns_82
theorem g_21 : Good Try.prog ⟨tis, fns_21, [], false⟩ := g_82.cons m_impl_SetOne
noncomputable def laws_szVal (a0 : Val) (left1 : Int) : Option Int :=
  let left1_1 := w64 (left1 - (a0.2.2.1.length : Int))
  cond (decide (left1_1 < 0))
    (some (-1))
    ((laws_szIntS a0.2.2.2 left1_1).bind fun t15 =>
    cond (decide (t15 < 0)) (some (-1)) (some t15))
noncomputable def F_laws_szVal : Fn := ⟨[.val true cVal false, .val false (.one (.int .i64)) false], [.val false (.one (.int .i64)) true], fun a => laws_szVal a.1 a.2⟩
def a_laws_szVal : List (Nat × LoopAnn) := []
theorem e_laws_szVal : fnDen ⟨tis, fns_21, [], false⟩ a_laws_szVal Try.f130 (codeOf Try.f130) [.val true cVal false, .val false (.one (.int .i64)) false] [.val false (.one (.int .i64)) true] = fun a => laws_szVal a.1 a.2 := by kernel_rfl
theorem m_laws_szVal : Meets Try.prog 130 F_laws_szVal := by
  have h := meets_of (ann := a_laws_szVal) (ps := [.val true cVal false, .val false (.one (.int .i64)) false]) (rs := [.val false (.one (.int .i64)) true]) g_21 mixed Try.func130 (by kernel_rfl) (by kernel_rfl : Try.f130.body = some (codeOf Try.f130))
  rw [e_laws_szVal] at h
  exact h
noncomputable def fns_130 : List (FuncId × Fn) := (130, F_laws_szVal) :: fns_21
theorem g_130 : Good Try.prog ⟨tis, fns_130, [], false⟩ := g_21.cons m_laws_szVal
noncomputable def laws_szBind (a0 : Bind) (left1 : Int) : Option Int :=
  (laws_szIntS a0.1 left1).bind fun t8 =>
  cond (decide (t8 < 0))
    (some (-1))
    ((laws_szVal a0.2 t8).bind fun t14 =>
    cond (decide (t14 < 0)) (some (-1)) (some t14))
noncomputable def F_laws_szBind : Fn := ⟨[.val true cBind false, .val false (.one (.int .i64)) false], [.val false (.one (.int .i64)) true], fun a => laws_szBind a.1 a.2⟩
def a_laws_szBind : List (Nat × LoopAnn) := []
theorem e_laws_szBind : fnDen ⟨tis, fns_130, [], false⟩ a_laws_szBind Try.f58 (codeOf Try.f58) [.val true cBind false, .val false (.one (.int .i64)) false] [.val false (.one (.int .i64)) true] = fun a => laws_szBind a.1 a.2 := by kernel_rfl
theorem m_laws_szBind : Meets Try.prog 58 F_laws_szBind := by
  have h := meets_of (ann := a_laws_szBind) (ps := [.val true cBind false, .val false (.one (.int .i64)) false]) (rs := [.val false (.one (.int .i64)) true]) g_130 mixed Try.func58 (by kernel_rfl) (by kernel_rfl : Try.f58.body = some (codeOf Try.f58))
  rw [e_laws_szBind] at h
  exact h
noncomputable def fns_58 : List (FuncId × Fn) := (58, F_laws_szBind) :: fns_130
theorem g_58 : Good Try.prog ⟨tis, fns_58, [], false⟩ := g_130.cons m_laws_szBind
noncomputable def spec_l1In (x0 : Int) (least1 : Int) (most2 : Int) : Option Bool :=
  (cond (decide (x0 ≥ least1)) (some (decide (x0 ≤ most2))) (some false)).bind fun t14 =>
  some t14
noncomputable def F_spec_l1In : Fn := ⟨[.val false (.one (.int .i64)) false, .val false (.one (.int .i64)) false, .val false (.one (.int .i64)) false], [.val false (.one .bool) true], fun a => spec_l1In a.1 a.2.1 a.2.2⟩
def a_spec_l1In : List (Nat × LoopAnn) := []
theorem e_spec_l1In : fnDen ⟨tis, fns_58, [], false⟩ a_spec_l1In Try.f113 (codeOf Try.f113) [.val false (.one (.int .i64)) false, .val false (.one (.int .i64)) false, .val false (.one (.int .i64)) false] [.val false (.one .bool) true] = fun a => spec_l1In a.1 a.2.1 a.2.2 := by kernel_rfl
theorem m_spec_l1In : Meets Try.prog 113 F_spec_l1In := by
  have h := meets_of (ann := a_spec_l1In) (ps := [.val false (.one (.int .i64)) false, .val false (.one (.int .i64)) false, .val false (.one (.int .i64)) false]) (rs := [.val false (.one .bool) true]) g_58 mixed Try.func113 (by kernel_rfl) (by kernel_rfl : Try.f113.body = some (codeOf Try.f113))
  rw [e_spec_l1In] at h
  exact h
noncomputable def fns_113 : List (FuncId × Fn) := (113, F_spec_l1In) :: fns_58
theorem g_113 : Good Try.prog ⟨tis, fns_113, [], false⟩ := g_58.cons m_spec_l1In
noncomputable def spec_VecOk (v0 : Vec) : Option Bool :=
  (spec_l1In v0.1 1 99).bind fun t5 =>
  (cond t5
    ((spec_l1In v0.2.1 0 100000).bind fun t9 =>
    some t9)
    (some false)).bind fun t10 =>
  (cond t10
    ((spec_l1In v0.2.2.1 0 10).bind fun t14 =>
    some t14)
    (some false)).bind fun t15 =>
  (cond t15
    ((spec_l1In v0.2.2.2.1 1 99).bind fun t19 =>
    some t19)
    (some false)).bind fun t20 =>
  (cond t20
    ((spec_l1In v0.2.2.2.2 0 7).bind fun t24 =>
    some t24)
    (some false)).bind fun t25 =>
  some t25
noncomputable def F_spec_VecOk : Fn := ⟨[.val true cVec false], [.val false (.one .bool) true], fun a => spec_VecOk a⟩
def a_spec_VecOk : List (Nat × LoopAnn) := []
theorem e_spec_VecOk : fnDen ⟨tis, fns_113, [], false⟩ a_spec_VecOk Try.f251 (codeOf Try.f251) [.val true cVec false] [.val false (.one .bool) true] = fun a => spec_VecOk a := by kernel_rfl
theorem m_spec_VecOk : Meets Try.prog 251 F_spec_VecOk := by
  have h := meets_of (ann := a_spec_VecOk) (ps := [.val true cVec false]) (rs := [.val false (.one .bool) true]) g_113 mixed Try.func251 (by kernel_rfl) (by kernel_rfl : Try.f251.body = some (codeOf Try.f251))
  rw [e_spec_VecOk] at h
  exact h
noncomputable def fns_251 : List (FuncId × Fn) := (251, F_spec_VecOk) :: fns_113
theorem g_251 : Good Try.prog ⟨tis, fns_251, [], false⟩ := g_113.cons m_spec_VecOk
noncomputable def spec_PtOk (p0 : Pt) : Option Bool :=
  (spec_l1In p0.2.1 1 1000).bind fun t5 =>
  (cond (!t5)
    (some true)
    ((cond (!p0.1) (some p0.2.2.1) (some false)).bind fun t14 =>
    some t14)).bind fun t15 =>
  cond t15
    (some false)
    (cond (!p0.2.2.1)
      (let t2 := p0.2.2.2.1 == 0 && (p0.2.2.2.2.1 == 0 && (p0.2.2.2.2.2.1 == 0 && (p0.2.2.2.2.2.2.1 == 0 && (p0.2.2.2.2.2.2.2 == 0))))
      some t2)
      ((spec_VecOk p0.2.2.2).bind fun t25 =>
      some t25))
noncomputable def F_spec_PtOk : Fn := ⟨[.val true cPt false], [.val false (.one .bool) true], fun a => spec_PtOk a⟩
def a_spec_PtOk : List (Nat × LoopAnn) := []
theorem e_spec_PtOk : fnDen ⟨tis, fns_251, [], false⟩ a_spec_PtOk Try.f190 (codeOf Try.f190) [.val true cPt false] [.val false (.one .bool) true] = fun a => spec_PtOk a := by kernel_rfl
theorem m_spec_PtOk : Meets Try.prog 190 F_spec_PtOk := by
  have h := meets_of (ann := a_spec_PtOk) (ps := [.val true cPt false]) (rs := [.val false (.one .bool) true]) g_251 mixed Try.func190 (by kernel_rfl) (by kernel_rfl : Try.f190.body = some (codeOf Try.f190))
  rw [e_spec_PtOk] at h
  exact h
noncomputable def fns_190 : List (FuncId × Fn) := (190, F_spec_PtOk) :: fns_251
theorem g_190 : Good Try.prog ⟨tis, fns_190, [], false⟩ := g_251.cons m_spec_PtOk
noncomputable def spec_l8Ent (e0 : Fent) : Option Bool :=
  (spec_l1In e0.1 1 99).bind fun t5 =>
  (cond t5
    ((spec_l1In e0.2.1 1 9999).bind fun t9 =>
    some t9)
    (some false)).bind fun t10 =>
  (cond t10
    ((spec_l1In e0.2.2.1 0 7).bind fun t14 =>
    some t14)
    (some false)).bind fun t15 =>
  (cond t15
    ((spec_l1In e0.2.2.2.1 0 4).bind fun t19 =>
    some t19)
    (some false)).bind fun t20 =>
  (cond t20
    ((cond (!e0.2.2.2.2) (some true) (some (e0.2.2.2.1 == 0))).bind fun t29 =>
    some t29)
    (some false)).bind fun t30 =>
  some t30
noncomputable def F_spec_l8Ent : Fn := ⟨[.val true cFent false], [.val false (.one .bool) true], fun a => spec_l8Ent a⟩
def a_spec_l8Ent : List (Nat × LoopAnn) := []
theorem e_spec_l8Ent : fnDen ⟨tis, fns_190, [], false⟩ a_spec_l8Ent Try.f222 (codeOf Try.f222) [.val true cFent false] [.val false (.one .bool) true] = fun a => spec_l8Ent a := by kernel_rfl
theorem m_spec_l8Ent : Meets Try.prog 222 F_spec_l8Ent := by
  have h := meets_of (ann := a_spec_l8Ent) (ps := [.val true cFent false]) (rs := [.val false (.one .bool) true]) g_190 mixed Try.func222 (by kernel_rfl) (by kernel_rfl : Try.f222.body = some (codeOf Try.f222))
  rw [e_spec_l8Ent] at h
  exact h
noncomputable def fns_222 : List (FuncId × Fn) := (222, F_spec_l8Ent) :: fns_190
theorem g_222 : Good Try.prog ⟨tis, fns_222, [], false⟩ := g_190.cons m_spec_l8Ent
noncomputable def spec_l8Ahead (e0 : Fent) (tag1 : Int) (mac2 : Int) : Option Bool :=
  cond (e0.1 != tag1) (some (decide (e0.1 < tag1))) (some (decide (e0.2.1 < mac2)))
noncomputable def F_spec_l8Ahead : Fn := ⟨[.val true cFent false, .val false (.one (.int .i64)) false, .val false (.one (.int .i64)) false], [.val false (.one .bool) true], fun a => spec_l8Ahead a.1 a.2.1 a.2.2⟩
def a_spec_l8Ahead : List (Nat × LoopAnn) := []
theorem e_spec_l8Ahead : fnDen ⟨tis, fns_222, [], false⟩ a_spec_l8Ahead Try.f252 (codeOf Try.f252) [.val true cFent false, .val false (.one (.int .i64)) false, .val false (.one (.int .i64)) false] [.val false (.one .bool) true] = fun a => spec_l8Ahead a.1 a.2.1 a.2.2 := by kernel_rfl
theorem m_spec_l8Ahead : Meets Try.prog 252 F_spec_l8Ahead := by
  have h := meets_of (ann := a_spec_l8Ahead) (ps := [.val true cFent false, .val false (.one (.int .i64)) false, .val false (.one (.int .i64)) false]) (rs := [.val false (.one .bool) true]) g_222 mixed Try.func252 (by kernel_rfl) (by kernel_rfl : Try.f252.body = some (codeOf Try.f252))
  rw [e_spec_l8Ahead] at h
  exact h
noncomputable def fns_252 : List (FuncId × Fn) := (252, F_spec_l8Ahead) :: fns_222
theorem g_252 : Good Try.prog ⟨tis, fns_252, [], false⟩ := g_222.cons m_spec_l8Ahead
noncomputable def spec_FdbOk_l0 (l0 : List Fent) (i3 : Int) : Option (Int ⊕ (Unit ⊕ Bool)) :=
  cond (decide (i3 < (l0.length : Int)))
    ((at? l0 i3).bind fun x12 =>
    (spec_l8Ent x12).bind fun t14 =>
    (cond (!t14)
      (some true)
      ((cond (decide (i3 > 0))
        ((at? l0 (w64 (i3 - 1))).bind fun x23 =>
        (at? l0 i3).bind fun x27 =>
        (at? l0 i3).bind fun x32 =>
        (spec_l8Ahead x23 x27.1 x32.2.1).bind fun t35 =>
        some (!t35))
        (some false)).bind fun t37 =>
      some t37)).bind fun t38 =>
    cond t38 (some (.inr (.inr false))) (some (.inl (w64 (i3 + 1)))))
    (some (.inr (.inl ())))
noncomputable def spec_FdbOk (l0 : List Fent) : Option Bool :=
  (loop (fun z => spec_FdbOk_l0 l0 z) 0).bind (Sum.elim (fun d =>
    let t2 := decide ((l0.length : Int) ≤ 12)
    some t2) (fun r => some r))
noncomputable def F_spec_FdbOk : Fn := ⟨[.val false (.one (.sl cFent)) false], [.val false (.one .bool) true], fun a => spec_FdbOk a⟩
def a_spec_FdbOk : List (Nat × LoopAnn) := [(0, ⟨⟨[(3, false, [.dat (.int .i64)]), (17, false, [.undef]), (18, false, [.undef]), (19, false, [.undef]), (20, false, [.undef]), (21, false, [.undef]), (22, false, [.undef]), (23, false, [.undef]), (24, false, [.undef]), (25, false, [.undef]), (26, false, [.undef]), (27, false, [.undef]), (28, false, [.undef]), (29, false, [.undef]), (30, false, [.undef]), (31, false, [.undef]), (32, false, [.undef]), (33, false, [.undef]), (34, false, [.undef]), (35, false, [.undef]), (36, false, [.undef]), (37, false, [.undef])], []⟩,
    ⟨[], []⟩, some ⟨[(2, false, [.dat .bool])], []⟩⟩)]
theorem e_spec_FdbOk : fnDen ⟨tis, fns_252, [], false⟩ a_spec_FdbOk Try.f191 (codeOf Try.f191) [.val false (.one (.sl cFent)) false] [.val false (.one .bool) true] = fun a => spec_FdbOk a := by kernel_rfl
theorem m_spec_FdbOk : Meets Try.prog 191 F_spec_FdbOk := by
  have h := meets_of (ann := a_spec_FdbOk) (ps := [.val false (.one (.sl cFent)) false]) (rs := [.val false (.one .bool) true]) g_252 mixed Try.func191 (by kernel_rfl) (by kernel_rfl : Try.f191.body = some (codeOf Try.f191))
  rw [e_spec_FdbOk] at h
  exact h
noncomputable def fns_191 : List (FuncId × Fn) := (191, F_spec_FdbOk) :: fns_252
theorem g_191 : Good Try.prog ⟨tis, fns_191, [], false⟩ := g_252.cons m_spec_FdbOk
noncomputable def spec_RowAt_l0 (v0 : Vtab) (id1 : Int) (i5 : Int) : Option (Int ⊕ (Unit ⊕ Int)) :=
  cond (decide (i5 < (v0.1.length : Int)))
    ((at? v0.1 i5).bind fun x16 =>
    cond (x16.1 == id1) (some (.inr (.inr i5))) (some (.inl (w64 (i5 + 1)))))
    (some (.inr (.inl ())))
noncomputable def spec_RowAt (v0 : Vtab) (id1 : Int) : Option Int :=
  (loop (fun z => spec_RowAt_l0 v0 id1 z) 0).bind (Sum.elim (fun d =>
    some (-1)) (fun r => some r))
noncomputable def F_spec_RowAt : Fn := ⟨[.val true cVtab false, .val false (.one (.int .i64)) false], [.val false (.one (.int .i64)) true], fun a => spec_RowAt a.1 a.2⟩
def a_spec_RowAt : List (Nat × LoopAnn) := [(0, ⟨⟨[(5, false, [.dat (.int .i64)])], []⟩,
    ⟨[], []⟩, some ⟨[(4, false, [.dat (.int .i64)])], []⟩⟩)]
theorem e_spec_RowAt : fnDen ⟨tis, fns_191, [], false⟩ a_spec_RowAt Try.f253 (codeOf Try.f253) [.val true cVtab false, .val false (.one (.int .i64)) false] [.val false (.one (.int .i64)) true] = fun a => spec_RowAt a.1 a.2 := by kernel_rfl
theorem m_spec_RowAt : Meets Try.prog 253 F_spec_RowAt := by
  have h := meets_of (ann := a_spec_RowAt) (ps := [.val true cVtab false, .val false (.one (.int .i64)) false]) (rs := [.val false (.one (.int .i64)) true]) g_191 mixed Try.func253 (by kernel_rfl) (by kernel_rfl : Try.f253.body = some (codeOf Try.f253))
  rw [e_spec_RowAt] at h
  exact h
noncomputable def fns_253 : List (FuncId × Fn) := (253, F_spec_RowAt) :: fns_191
theorem g_253 : Good Try.prog ⟨tis, fns_253, [], false⟩ := g_191.cons m_spec_RowAt
noncomputable def spec_VtabOk_l0 (p0 : Vtab) (t27 : Int) (t6 : Int) : Option (Int ⊕ (Unit ⊕ Bool)) :=
  cond (decide (t6 < (p0.1.length : Int)))
    ((at? p0.1 t6).bind fun x39 =>
    (spec_l1In x39.1 1 99).bind fun t43 =>
    (cond (!t43)
      (some true)
      ((spec_l1In x39.2.1 0 (w64 (t27 - 1))).bind fun t49 =>
      some (!t49))).bind fun t51 =>
    (cond t51
      (some true)
      ((spec_l1In x39.2.2 0 (w64 (t27 - 1))).bind fun t56 =>
      some (!t56))).bind fun t58 =>
    (cond t58 (some true) (some ((band .i64 x39.2.2 x39.2.1) != x39.2.2))).bind fun t68 =>
    (cond t68
      (some true)
      ((cond (decide (t6 > 0))
        ((at? p0.1 (w64 (t6 - 1))).bind fun x77 =>
        some (decide (x77.1 ≥ x39.1)))
        (some false)).bind fun t83 =>
      some t83)).bind fun t84 =>
    cond t84 (some (.inr (.inr false))) (some (.inl (w64 (t6 + 1)))))
    (some (.inr (.inl ())))
noncomputable def spec_VtabOk_l2 (p0 : Vtab) (t8 : Int) : Option (Int ⊕ (Unit ⊕ Bool)) :=
  cond (decide (t8 < (p0.2.length : Int)))
    ((at? p0.2 t8).bind fun x96 =>
    (spec_RowAt p0 x96).bind fun t98 =>
    cond (decide (t98 < 0)) (some (.inr (.inr false))) (some (.inl (w64 (t8 + 1)))))
    (some (.inr (.inl ())))
noncomputable def spec_VtabOk (p0 : Vtab) (i1 : Int) : Option Bool :=
  (spec_l1In i1 1 6).bind fun t10 =>
  (cond (!t10) (some true) (some ((p0.2.length : Int) != i1))).bind fun t18 =>
  (cond t18 (some true) (some (decide ((p0.1.length : Int) > 6)))).bind fun t24 =>
  cond t24
    (some false)
    ((shl .i64 1 (IntKind.u64.wrap (i1))).bind fun t27 =>
    (loop (fun z => spec_VtabOk_l0 p0 t27 z) 0).bind (Sum.elim (fun d =>
      (loop (fun z => spec_VtabOk_l2 p0 z) 0).bind (Sum.elim (fun d_1 =>
        some true) (fun r => some r))) (fun r_1 => some r_1)))
noncomputable def F_spec_VtabOk : Fn := ⟨[.val true cVtab false, .val false (.one (.int .i64)) false], [.val false (.one .bool) true], fun a => spec_VtabOk a.1 a.2⟩
def a_spec_VtabOk : List (Nat × LoopAnn) := [(0, ⟨⟨[(6, false, [.dat (.int .i64)]), (46, false, [.undef]), (47, false, [.undef]), (48, false, [.undef]), (49, false, [.undef]), (50, false, [.undef]), (53, false, [.undef]), (54, false, [.undef]), (55, false, [.undef]), (56, false, [.undef]), (57, false, [.undef]), (60, false, [.undef]), (61, false, [.undef]), (62, false, [.undef]), (63, false, [.undef]), (64, false, [.undef]), (65, false, [.undef]), (66, false, [.undef]), (67, false, [.undef]), (70, false, [.undef]), (71, false, [.undef]), (72, false, [.undef]), (73, false, [.undef]), (74, false, [.undef]), (75, false, [.undef]), (76, false, [.undef]), (77, false, [.undef]), (78, false, [.undef]), (79, false, [.undef]), (80, false, [.undef]), (81, false, [.undef]), (82, false, [.undef]), (83, false, [.undef])], []⟩,
    ⟨[], []⟩, some ⟨[(4, false, [.dat .bool])], []⟩⟩),
  (2, ⟨⟨[(8, false, [.dat (.int .i64)])], []⟩,
    ⟨[], []⟩, some ⟨[(4, false, [.dat .bool])], []⟩⟩)]
theorem e_spec_VtabOk : fnDen ⟨tis, fns_253, [], false⟩ a_spec_VtabOk Try.f192 (codeOf Try.f192) [.val true cVtab false, .val false (.one (.int .i64)) false] [.val false (.one .bool) true] = fun a => spec_VtabOk a.1 a.2 := by kernel_rfl
theorem m_spec_VtabOk : Meets Try.prog 192 F_spec_VtabOk := by
  have h := meets_of (ann := a_spec_VtabOk) (ps := [.val true cVtab false, .val false (.one (.int .i64)) false]) (rs := [.val false (.one .bool) true]) g_253 mixed Try.func192 (by kernel_rfl) (by kernel_rfl : Try.f192.body = some (codeOf Try.f192))
  rw [e_spec_VtabOk] at h
  exact h
noncomputable def fns_192 : List (FuncId × Fn) := (192, F_spec_VtabOk) :: fns_253
theorem g_192 : Good Try.prog ⟨tis, fns_192, [], false⟩ := g_253.cons m_spec_VtabOk
noncomputable def spec_l11Counts (b0 : Bridge) : Option Bool :=
  (spec_l1In b0.2.2.2.2.2.2.1 0 1000000).bind fun t5 =>
  (cond t5
    ((spec_l1In b0.2.2.2.2.2.2.2.1 0 1000000).bind fun t9 =>
    some t9)
    (some false)).bind fun t10 =>
  (cond t10
    ((spec_l1In b0.2.2.2.2.2.2.2.2.1 0 1000000).bind fun t14 =>
    some t14)
    (some false)).bind fun t15 =>
  (cond t15
    ((spec_l1In b0.2.2.2.2.2.2.2.2.2.1 0 1000000).bind fun t19 =>
    some t19)
    (some false)).bind fun t20 =>
  (cond t20
    ((spec_l1In b0.2.2.2.2.2.2.2.2.2.2 0 1000000).bind fun t24 =>
    some t24)
    (some false)).bind fun t25 =>
  some t25
noncomputable def F_spec_l11Counts : Fn := ⟨[.val true cBridge false], [.val false (.one .bool) true], fun a => spec_l11Counts a⟩
def a_spec_l11Counts : List (Nat × LoopAnn) := []
theorem e_spec_l11Counts : fnDen ⟨tis, fns_192, [], false⟩ a_spec_l11Counts Try.f193 (codeOf Try.f193) [.val true cBridge false] [.val false (.one .bool) true] = fun a => spec_l11Counts a := by kernel_rfl
theorem m_spec_l11Counts : Meets Try.prog 193 F_spec_l11Counts := by
  have h := meets_of (ann := a_spec_l11Counts) (ps := [.val true cBridge false]) (rs := [.val false (.one .bool) true]) g_192 mixed Try.func193 (by kernel_rfl) (by kernel_rfl : Try.f193.body = some (codeOf Try.f193))
  rw [e_spec_l11Counts] at h
  exact h
noncomputable def fns_193 : List (FuncId × Fn) := (193, F_spec_l11Counts) :: fns_192
theorem g_193 : Good Try.prog ⟨tis, fns_193, [], false⟩ := g_192.cons m_spec_l11Counts
noncomputable def spec_BridgeOk_l0 (b0 : Bridge) (i3 : Int) : Option (Int ⊕ (Unit ⊕ Bool)) :=
  cond (decide (i3 < (b0.2.2.1.length : Int)))
    ((at? b0.2.2.1 i3).bind fun x14 =>
    (spec_PtOk x14).bind fun t16 =>
    cond (!t16) (some (.inr (.inr false))) (some (.inl (w64 (i3 + 1)))))
    (some (.inr (.inl ())))
noncomputable def spec_BridgeOk (b0 : Bridge) : Option Bool :=
  (loop (fun z => spec_BridgeOk_l0 b0 z) 0).bind (Sum.elim (fun d =>
    (spec_l1In b0.1 1 99).bind fun t20 =>
    (cond t20 (some (decide ((b0.2.1.length : Int) ≤ 10))) (some false)).bind fun t26 =>
    (cond t26
      ((spec_l1In (b0.2.2.1.length : Int) 1 6).bind fun t31 =>
      some t31)
      (some false)).bind fun t32 =>
    (cond t32
      ((spec_FdbOk b0.2.2.2.1).bind fun t36 =>
      some t36)
      (some false)).bind fun t37 =>
    (cond t37
      ((spec_VtabOk (b0.2.2.2.2.1, b0.2.2.2.2.2.1) (b0.2.2.1.length : Int)).bind fun t44 =>
      some t44)
      (some false)).bind fun t45 =>
    (cond t45
      ((spec_l11Counts b0).bind fun t48 =>
      some t48)
      (some false)).bind fun t49 =>
    some t49) (fun r => some r))
noncomputable def F_spec_BridgeOk : Fn := ⟨[.val true cBridge false], [.val false (.one .bool) true], fun a => spec_BridgeOk a⟩
def a_spec_BridgeOk : List (Nat × LoopAnn) := [(0, ⟨⟨[(3, false, [.dat (.int .i64)])], []⟩,
    ⟨[], []⟩, some ⟨[(2, false, [.dat .bool])], []⟩⟩)]
theorem e_spec_BridgeOk : fnDen ⟨tis, fns_193, [], false⟩ a_spec_BridgeOk Try.f116 (codeOf Try.f116) [.val true cBridge false] [.val false (.one .bool) true] = fun a => spec_BridgeOk a := by kernel_rfl
theorem m_spec_BridgeOk : Meets Try.prog 116 F_spec_BridgeOk := by
  have h := meets_of (ann := a_spec_BridgeOk) (ps := [.val true cBridge false]) (rs := [.val false (.one .bool) true]) g_193 mixed Try.func116 (by kernel_rfl) (by kernel_rfl : Try.f116.body = some (codeOf Try.f116))
  rw [e_spec_BridgeOk] at h
  exact h
noncomputable def fns_116 : List (FuncId × Fn) := (116, F_spec_BridgeOk) :: fns_193
theorem g_116 : Good Try.prog ⟨tis, fns_116, [], false⟩ := g_193.cons m_spec_BridgeOk
noncomputable def spec_l8Copy (l0 : List Fent) : Option (List Fent) :=
  (app ([] : List Fent) l0).bind fun zs5 =>
  some zs5
noncomputable def F_spec_l8Copy : Fn := ⟨[.val false (.one (.sl cFent)) false], [.val false (.one (.sl cFent)) true], fun a => spec_l8Copy a⟩
def a_spec_l8Copy : List (Nat × LoopAnn) := []
theorem e_spec_l8Copy : fnDen ⟨tis, fns_116, [], false⟩ a_spec_l8Copy Try.f198 (codeOf Try.f198) [.val false (.one (.sl cFent)) false] [.val false (.one (.sl cFent)) true] = fun a => spec_l8Copy a := by kernel_rfl
theorem m_spec_l8Copy : Meets Try.prog 198 F_spec_l8Copy := by
  have h := meets_of (ann := a_spec_l8Copy) (ps := [.val false (.one (.sl cFent)) false]) (rs := [.val false (.one (.sl cFent)) true]) g_116 mixed Try.func198 (by kernel_rfl) (by kernel_rfl : Try.f198.body = some (codeOf Try.f198))
  rw [e_spec_l8Copy] at h
  exact h
noncomputable def fns_198 : List (FuncId × Fn) := (198, F_spec_l8Copy) :: fns_116
theorem g_198 : Good Try.prog ⟨tis, fns_198, [], false⟩ := g_116.cons m_spec_l8Copy
noncomputable def spec_l9Copy (v0 : Vtab) : Option Vtab :=
  (app ([] : List Vrow) v0.1).bind fun zs6 =>
  (app ([] : List Int) v0.2).bind fun zs10 =>
  some (zs6, zs10)
noncomputable def F_spec_l9Copy : Fn := ⟨[.val true cVtab false], [.val true cVtab true], fun a => spec_l9Copy a⟩
def a_spec_l9Copy : List (Nat × LoopAnn) := []
theorem e_spec_l9Copy : fnDen ⟨tis, fns_198, [], false⟩ a_spec_l9Copy Try.f199 (codeOf Try.f199) [.val true cVtab false] [.val true cVtab true] = fun a => spec_l9Copy a := by kernel_rfl
theorem m_spec_l9Copy : Meets Try.prog 199 F_spec_l9Copy := by
  have h := meets_of (ann := a_spec_l9Copy) (ps := [.val true cVtab false]) (rs := [.val true cVtab true]) g_198 mixed Try.func199 (by kernel_rfl) (by kernel_rfl : Try.f199.body = some (codeOf Try.f199))
  rw [e_spec_l9Copy] at h
  exact h
noncomputable def fns_199 : List (FuncId × Fn) := (199, F_spec_l9Copy) :: fns_198
theorem g_199 : Good Try.prog ⟨tis, fns_199, [], false⟩ := g_198.cons m_spec_l9Copy
noncomputable def spec_l11Copy (b0 : Bridge) : Option Bridge :=
  (app ([] : List Pt) b0.2.2.1).bind fun zs8 =>
  (spec_l8Copy b0.2.2.2.1).bind fun t12 =>
  (spec_l9Copy (b0.2.2.2.2.1, b0.2.2.2.2.2.1)).bind fun t16 =>
  some (b0.1, b0.2.1, zs8, t12, t16.1, t16.2, b0.2.2.2.2.2.2.1, b0.2.2.2.2.2.2.2.1, b0.2.2.2.2.2.2.2.2.1, b0.2.2.2.2.2.2.2.2.2.1, b0.2.2.2.2.2.2.2.2.2.2)
noncomputable def F_spec_l11Copy : Fn := ⟨[.val true cBridge false], [.val true cBridge true], fun a => spec_l11Copy a⟩
def a_spec_l11Copy : List (Nat × LoopAnn) := []
theorem e_spec_l11Copy : fnDen ⟨tis, fns_199, [], false⟩ a_spec_l11Copy Try.f126 (codeOf Try.f126) [.val true cBridge false] [.val true cBridge true] = fun a => spec_l11Copy a := by kernel_rfl
theorem m_spec_l11Copy : Meets Try.prog 126 F_spec_l11Copy := by
  have h := meets_of (ann := a_spec_l11Copy) (ps := [.val true cBridge false]) (rs := [.val true cBridge true]) g_199 mixed Try.func126 (by kernel_rfl) (by kernel_rfl : Try.f126.body = some (codeOf Try.f126))
  rw [e_spec_l11Copy] at h
  exact h
noncomputable def fns_126 : List (FuncId × Fn) := (126, F_spec_l11Copy) :: fns_199
theorem g_126 : Good Try.prog ⟨tis, fns_126, [], false⟩ := g_199.cons m_spec_l11Copy
noncomputable def spec_SameOid_l0 (a0 : List Int) (b1 : List Int) (i5 : Int) : Option (Int ⊕ (Unit ⊕ Bool)) :=
  cond (decide (i5 < (a0.length : Int)))
    ((at? a0 i5).bind fun x19 =>
    (at? b1 i5).bind fun x23 =>
    cond (x19 != x23) (some (.inr (.inr false))) (some (.inl (w64 (i5 + 1)))))
    (some (.inr (.inl ())))
noncomputable def spec_SameOid (a0 : List Int) (b1 : List Int) : Option Bool :=
  cond ((a0.length : Int) != (b1.length : Int))
    (some false)
    ((loop (fun z => spec_SameOid_l0 a0 b1 z) 0).bind (Sum.elim (fun d =>
      some true) (fun r => some r)))
noncomputable def F_spec_SameOid : Fn := ⟨[.val false (.one (.sl (.one (.int .i64)))) false, .val false (.one (.sl (.one (.int .i64)))) false], [.val false (.one .bool) true], fun a => spec_SameOid a.1 a.2⟩
def a_spec_SameOid : List (Nat × LoopAnn) := [(0, ⟨⟨[(5, false, [.dat (.int .i64)])], []⟩,
    ⟨[], []⟩, some ⟨[(4, false, [.dat .bool])], []⟩⟩)]
theorem e_spec_SameOid : fnDen ⟨tis, fns_126, [], false⟩ a_spec_SameOid Try.f97 (codeOf Try.f97) [.val false (.one (.sl (.one (.int .i64)))) false, .val false (.one (.sl (.one (.int .i64)))) false] [.val false (.one .bool) true] = fun a => spec_SameOid a.1 a.2 := by kernel_rfl
theorem m_spec_SameOid : Meets Try.prog 97 F_spec_SameOid := by
  have h := meets_of (ann := a_spec_SameOid) (ps := [.val false (.one (.sl (.one (.int .i64)))) false, .val false (.one (.sl (.one (.int .i64)))) false]) (rs := [.val false (.one .bool) true]) g_126 mixed Try.func97 (by kernel_rfl) (by kernel_rfl : Try.f97.body = some (codeOf Try.f97))
  rw [e_spec_SameOid] at h
  exact h
noncomputable def fns_97 : List (FuncId × Fn) := (97, F_spec_SameOid) :: fns_126
theorem g_97 : Good Try.prog ⟨tis, fns_97, [], false⟩ := g_126.cons m_spec_SameOid
noncomputable def spec_Below (o0 : List Int) (head1 : List Int) : Option Bool :=
  (cond (decide ((o0.length : Int) > (head1.length : Int)))
    ((cut o0 0 (head1.length : Int)).bind fun t14 =>
    (spec_SameOid t14 head1).bind fun t16 =>
    some t16)
    (some false)).bind fun t17 =>
  some t17
noncomputable def F_spec_Below : Fn := ⟨[.val false (.one (.sl (.one (.int .i64)))) false, .val false (.one (.sl (.one (.int .i64)))) false], [.val false (.one .bool) true], fun a => spec_Below a.1 a.2⟩
def a_spec_Below : List (Nat × LoopAnn) := []
theorem e_spec_Below : fnDen ⟨tis, fns_97, [], false⟩ a_spec_Below Try.f68 (codeOf Try.f68) [.val false (.one (.sl (.one (.int .i64)))) false, .val false (.one (.sl (.one (.int .i64)))) false] [.val false (.one .bool) true] = fun a => spec_Below a.1 a.2 := by kernel_rfl
theorem m_spec_Below : Meets Try.prog 68 F_spec_Below := by
  have h := meets_of (ann := a_spec_Below) (ps := [.val false (.one (.sl (.one (.int .i64)))) false, .val false (.one (.sl (.one (.int .i64)))) false]) (rs := [.val false (.one .bool) true]) g_97 mixed Try.func68 (by kernel_rfl) (by kernel_rfl : Try.f68.body = some (codeOf Try.f68))
  rw [e_spec_Below] at h
  exact h
noncomputable def fns_68 : List (FuncId × Fn) := (68, F_spec_Below) :: fns_97
theorem g_68 : Good Try.prog ⟨tis, fns_68, [], false⟩ := g_97.cons m_spec_Below
noncomputable def spec_l18Below (o0 : List Int) : Option ((List Int) × Bool) :=
  (spec_Below o0 ([1, 3, 1] : List Int)).bind fun t6 =>
  cond (!t6)
    (some (([] : List Int), false))
    ((cut o0 3 (o0.length : Int)).bind fun t10 =>
    some (t10, true))
noncomputable def F_spec_l18Below : Fn := ⟨[.val false (.one (.sl (.one (.int .i64)))) false], [.val false (.one (.sl (.one (.int .i64)))) false, .val false (.one .bool) true], fun a => spec_l18Below a⟩
def a_spec_l18Below : List (Nat × LoopAnn) := []
theorem e_spec_l18Below : fnDen ⟨tis, fns_68, [], false⟩ a_spec_l18Below Try.f261 (codeOf Try.f261) [.val false (.one (.sl (.one (.int .i64)))) false] [.val false (.one (.sl (.one (.int .i64)))) false, .val false (.one .bool) true] = fun a => spec_l18Below a := by kernel_rfl
theorem m_spec_l18Below : Meets Try.prog 261 F_spec_l18Below := by
  have h := meets_of (ann := a_spec_l18Below) (ps := [.val false (.one (.sl (.one (.int .i64)))) false]) (rs := [.val false (.one (.sl (.one (.int .i64)))) false, .val false (.one .bool) true]) g_68 mixed Try.func261 (by kernel_rfl) (by kernel_rfl : Try.f261.body = some (codeOf Try.f261))
  rw [e_spec_l18Below] at h
  exact h
noncomputable def fns_261 : List (FuncId × Fn) := (261, F_spec_l18Below) :: fns_68
theorem g_261 : Good Try.prog ⟨tis, fns_261, [], false⟩ := g_68.cons m_spec_l18Below
noncomputable def spec_l18May (p0 : Bridge) (i1 : List Int) : Option Bool :=
  (spec_l18Below i1).bind fun t9 =>
  cond (!t9.2)
    (some false)
    (cond ((t9.1.length : Int) == 2)
      ((at? t9.1 0).bind fun x18 =>
      (cond (x18 == 1)
        ((at? t9.1 1).bind fun x23 =>
        some (x23 == 1))
        (some false)).bind fun t26 =>
      some t26)
      (cond ((t9.1.length : Int) != 3)
        (some false)
        ((at? t9.1 0).bind fun x31 =>
        cond (x31 == 2)
          ((at? t9.1 1).bind fun x36 =>
          (cond (x36 == 2)
            (some true)
            ((at? t9.1 1).bind fun x41 =>
            some (x41 == 4))).bind fun t44 =>
          (cond t44
            ((at? t9.1 2).bind fun x47 =>
            (spec_l1In x47 1 (p0.2.2.1.length : Int)).bind fun t52 =>
            some t52)
            (some false)).bind fun t53 =>
          some t53)
          (cond (x31 == 3)
            ((at? t9.1 1).bind fun x57 =>
            (cond (x57 == 1)
              ((at? t9.1 2).bind fun x62 =>
              (spec_l1In x62 1 99).bind fun t64 =>
              some t64)
              (some false)).bind fun t65 =>
            (cond t65
              (some true)
              ((at? t9.1 1).bind fun x68 =>
              (cond (x68 == 2)
                (some true)
                ((at? t9.1 1).bind fun x73 =>
                some (x73 == 3))).bind fun t76 =>
              (cond t76
                ((at? t9.1 2).bind fun x81 =>
                (spec_RowAt (p0.2.2.2.2.1, p0.2.2.2.2.2.1) x81).bind fun t83 =>
                some (decide (t83 ≥ 0)))
                (some false)).bind fun t85 =>
              some t85)).bind fun t86 =>
            some t86)
            (some false)))))
noncomputable def F_spec_l18May : Fn := ⟨[.val true cBridge false, .val false (.one (.sl (.one (.int .i64)))) false], [.val false (.one .bool) true], fun a => spec_l18May a.1 a.2⟩
def a_spec_l18May : List (Nat × LoopAnn) := []
theorem e_spec_l18May : fnDen ⟨tis, fns_261, [], false⟩ a_spec_l18May Try.f203 (codeOf Try.f203) [.val true cBridge false, .val false (.one (.sl (.one (.int .i64)))) false] [.val false (.one .bool) true] = fun a => spec_l18May a.1 a.2 := by kernel_rfl
theorem m_spec_l18May : Meets Try.prog 203 F_spec_l18May := by
  have h := meets_of (ann := a_spec_l18May) (ps := [.val true cBridge false, .val false (.one (.sl (.one (.int .i64)))) false]) (rs := [.val false (.one .bool) true]) g_261 mixed Try.func203 (by kernel_rfl) (by kernel_rfl : Try.f203.body = some (codeOf Try.f203))
  rw [e_spec_l18May] at h
  exact h
noncomputable def fns_203 : List (FuncId × Fn) := (203, F_spec_l18May) :: fns_261
theorem g_203 : Good Try.prog ⟨tis, fns_203, [], false⟩ := g_261.cons m_spec_l18May
noncomputable def spec_l8At_l0 (l0 : List Fent) (tag1 : Int) (mac2 : Int) (i7 : Int) : Option (Int ⊕ (Unit ⊕ Int)) :=
  cond (decide (i7 < (l0.length : Int)))
    ((at? l0 i7).bind fun x16 =>
    (cond (x16.1 == tag1)
      ((at? l0 i7).bind fun x24 =>
      some (x24.2.1 == mac2))
      (some false)).bind fun t29 =>
    cond t29 (some (.inr (.inr i7))) (some (.inl (w64 (i7 + 1)))))
    (some (.inr (.inl ())))
noncomputable def spec_l8At (l0 : List Fent) (tag1 : Int) (mac2 : Int) : Option Int :=
  (loop (fun z => spec_l8At_l0 l0 tag1 mac2 z) 0).bind (Sum.elim (fun d =>
    some (-1)) (fun r => some r))
noncomputable def F_spec_l8At : Fn := ⟨[.val false (.one (.sl cFent)) false, .val false (.one (.int .i64)) false, .val false (.one (.int .i64)) false], [.val false (.one (.int .i64)) true], fun a => spec_l8At a.1 a.2.1 a.2.2⟩
def a_spec_l8At : List (Nat × LoopAnn) := [(0, ⟨⟨[(7, false, [.dat (.int .i64)]), (22, false, [.undef]), (23, false, [.undef]), (24, false, [.undef]), (25, false, [.undef]), (26, false, [.undef]), (27, false, [.undef]), (28, false, [.undef])], []⟩,
    ⟨[], []⟩, some ⟨[(6, false, [.dat (.int .i64)])], []⟩⟩)]
theorem e_spec_l8At : fnDen ⟨tis, fns_203, [], false⟩ a_spec_l8At Try.f221 (codeOf Try.f221) [.val false (.one (.sl cFent)) false, .val false (.one (.int .i64)) false, .val false (.one (.int .i64)) false] [.val false (.one (.int .i64)) true] = fun a => spec_l8At a.1 a.2.1 a.2.2 := by kernel_rfl
theorem m_spec_l8At : Meets Try.prog 221 F_spec_l8At := by
  have h := meets_of (ann := a_spec_l8At) (ps := [.val false (.one (.sl cFent)) false, .val false (.one (.int .i64)) false, .val false (.one (.int .i64)) false]) (rs := [.val false (.one (.int .i64)) true]) g_203 mixed Try.func221 (by kernel_rfl) (by kernel_rfl : Try.f221.body = some (codeOf Try.f221))
  rw [e_spec_l8At] at h
  exact h
noncomputable def fns_221 : List (FuncId × Fn) := (221, F_spec_l8At) :: fns_203
theorem g_221 : Good Try.prog ⟨tis, fns_221, [], false⟩ := g_203.cons m_spec_l8At
noncomputable def spec_l18Seen (p0 : Bridge) (i1 : List Int) : Option Bool :=
  (spec_l18Below i1).bind fun t9 =>
  cond (!t9.2)
    (some false)
    (cond ((t9.1.length : Int) == 2)
      ((at? t9.1 0).bind fun x19 =>
      (cond (x19 == 1)
        ((at? t9.1 1).bind fun x24 =>
        (spec_l1In x24 2 5).bind fun t26 =>
        some t26)
        (some false)).bind fun t27 =>
      some t27)
      (cond ((t9.1.length : Int) == 3)
        ((at? t9.1 0).bind fun x31 =>
        (cond (x31 == 2)
          ((at? t9.1 1).bind fun x36 =>
          (cond (x36 == 1)
            (some true)
            ((at? t9.1 1).bind fun x41 =>
            some (x41 == 3))).bind fun t44 =>
          some t44)
          (some false)).bind fun t45 =>
        (cond t45
          ((at? t9.1 2).bind fun x48 =>
          (spec_l1In x48 1 (p0.2.2.1.length : Int)).bind fun t53 =>
          some t53)
          (some false)).bind fun t54 =>
        some t54)
        (cond ((t9.1.length : Int) == 4)
          ((at? t9.1 0).bind fun x58 =>
          (cond (x58 == 4)
            ((at? t9.1 1).bind fun x63 =>
            some (x63 == 1))
            (some false)).bind fun t66 =>
          (cond t66
            ((at? t9.1 2).bind fun x71 =>
            (at? t9.1 3).bind fun x74 =>
            (spec_l8At p0.2.2.2.1 x71 x74).bind fun t76 =>
            some (decide (t76 ≥ 0)))
            (some false)).bind fun t78 =>
          some t78)
          (some false))))
noncomputable def F_spec_l18Seen : Fn := ⟨[.val true cBridge false, .val false (.one (.sl (.one (.int .i64)))) false], [.val false (.one .bool) true], fun a => spec_l18Seen a.1 a.2⟩
def a_spec_l18Seen : List (Nat × LoopAnn) := []
theorem e_spec_l18Seen : fnDen ⟨tis, fns_221, [], false⟩ a_spec_l18Seen Try.f204 (codeOf Try.f204) [.val true cBridge false, .val false (.one (.sl (.one (.int .i64)))) false] [.val false (.one .bool) true] = fun a => spec_l18Seen a.1 a.2 := by kernel_rfl
theorem m_spec_l18Seen : Meets Try.prog 204 F_spec_l18Seen := by
  have h := meets_of (ann := a_spec_l18Seen) (ps := [.val true cBridge false, .val false (.one (.sl (.one (.int .i64)))) false]) (rs := [.val false (.one .bool) true]) g_221 mixed Try.func204 (by kernel_rfl) (by kernel_rfl : Try.f204.body = some (codeOf Try.f204))
  rw [e_spec_l18Seen] at h
  exact h
noncomputable def fns_204 : List (FuncId × Fn) := (204, F_spec_l18Seen) :: fns_221
theorem g_204 : Good Try.prog ⟨tis, fns_204, [], false⟩ := g_221.cons m_spec_l18Seen
noncomputable def spec_l18Port (b0 : Bridge) (c1 : Int) (p2 : Int) (n3 : Int) : Option (Bridge × Int) :=
  cond (c1 == 2)
    ((spec_l1In n3 1 1000).bind fun t13 =>
    cond (!t13)
      (some (b0, 2))
      ((ix b0.2.2.1.length p2).bind fun j20 =>
      (b0.2.2.1[j20]?).bind fun x =>
      some ((b0.1, b0.2.1, b0.2.2.1.set j20 (x.1, n3, x.2.2.1, x.2.2.2.1, x.2.2.2.2.1, x.2.2.2.2.2.1, x.2.2.2.2.2.2.1, x.2.2.2.2.2.2.2), b0.2.2.2.1, b0.2.2.2.2.1, b0.2.2.2.2.2.1, b0.2.2.2.2.2.2.1, b0.2.2.2.2.2.2.2.1, b0.2.2.2.2.2.2.2.2.1, b0.2.2.2.2.2.2.2.2.2.1, b0.2.2.2.2.2.2.2.2.2.2), 0)))
    ((ix b0.2.2.2.2.2.1.length p2).bind fun j28 =>
    (b0.2.2.2.2.2.1[j28]?).bind fun x_1 =>
    some ((b0.1, b0.2.1, b0.2.2.1, b0.2.2.2.1, b0.2.2.2.2.1, b0.2.2.2.2.2.1.set j28 n3, b0.2.2.2.2.2.2.1, b0.2.2.2.2.2.2.2.1, b0.2.2.2.2.2.2.2.2.1, b0.2.2.2.2.2.2.2.2.2.1, b0.2.2.2.2.2.2.2.2.2.2), 0))
noncomputable def F_spec_l18Port : Fn := ⟨[.val true cBridge true, .val false (.one (.int .i64)) false, .val false (.one (.int .i64)) false, .val false (.one (.int .i64)) false], [.val true cBridge true, .val false (.one (.int .i64)) true], fun a => spec_l18Port a.1 a.2.1 a.2.2.1 a.2.2.2⟩
def a_spec_l18Port : List (Nat × LoopAnn) := []
theorem e_spec_l18Port : fnDen ⟨tis, fns_204, [], false⟩ a_spec_l18Port Try.f205 (codeOf Try.f205) [.val true cBridge true, .val false (.one (.int .i64)) false, .val false (.one (.int .i64)) false, .val false (.one (.int .i64)) false] [.val true cBridge true, .val false (.one (.int .i64)) true] = fun a => spec_l18Port a.1 a.2.1 a.2.2.1 a.2.2.2 := by kernel_rfl
theorem m_spec_l18Port : Meets Try.prog 205 F_spec_l18Port := by
  have h := meets_of (ann := a_spec_l18Port) (ps := [.val true cBridge true, .val false (.one (.int .i64)) false, .val false (.one (.int .i64)) false, .val false (.one (.int .i64)) false]) (rs := [.val true cBridge true, .val false (.one (.int .i64)) true]) g_204 mixed Try.func205 (by kernel_rfl) (by kernel_rfl : Try.f205.body = some (codeOf Try.f205))
  rw [e_spec_l18Port] at h
  exact h
noncomputable def fns_205 : List (FuncId × Fn) := (205, F_spec_l18Port) :: fns_204
theorem g_205 : Good Try.prog ⟨tis, fns_205, [], false⟩ := g_204.cons m_spec_l18Port
noncomputable def spec_l9Row_l0 (p0 : Vtab) (i1 : Vrow) (t6 : Bool) (t7 : Int) (b0 : List Vrow) : Option ((Bool × Int × List Vrow) ⊕ (Bool × List Vrow)) :=
  cond (decide (t7 < (p0.1.length : Int)))
    ((cond (!t6)
      ((at? p0.1 t7).bind fun x26 =>
      some (decide (x26.1 ≥ i1.1)))
      (some false)).bind fun t32 =>
    cond t32
      ((app b0 [i1]).bind fun zs37 =>
      (at? p0.1 t7).bind fun x42 =>
      cond (x42.1 != i1.1)
        ((at? p0.1 t7).bind fun x53 =>
        (app zs37 [x53]).bind fun zs56 =>
        some (.inl (true, w64 (t7 + 1), zs56)))
        (some (.inl (true, w64 (t7 + 1), zs37))))
      ((at? p0.1 t7).bind fun x42_1 =>
      cond (x42_1.1 != i1.1)
        ((at? p0.1 t7).bind fun x53_1 =>
        (app b0 [x53_1]).bind fun zs56_1 =>
        some (.inl (t6, w64 (t7 + 1), zs56_1)))
        (some (.inl (t6, w64 (t7 + 1), b0)))))
    (some (.inr (t6, b0)))
noncomputable def spec_l9Row (p0 : Vtab) (i1 : Vrow) : Option Vtab :=
  (app ([] : List Int) p0.2).bind fun zs11 =>
  (loop (fun z => spec_l9Row_l0 p0 i1 z.1 z.2.1 z.2.2) (false, 0, [])).bind fun d =>
  cond (!d.1)
    ((app d.2 [i1]).bind fun zs64 =>
    some (zs64, zs11))
    (some (d.2, zs11))
noncomputable def F_spec_l9Row : Fn := ⟨[.val true cVtab false, .val true cVrow false], [.val true cVtab true], fun a => spec_l9Row a.1 a.2⟩
def a_spec_l9Row : List (Nat × LoopAnn) := [(0, ⟨⟨[(6, false, [.dat .bool]), (7, false, [.dat (.int .i64)]), (23, false, [.undef]), (24, false, [.undef]), (25, false, [.undef]), (26, false, [.undef]), (27, false, [.undef]), (28, false, [.undef]), (29, false, [.undef]), (30, false, [.undef]), (31, false, [.undef])], [(268288, .box [.own 1000000000, .same 266240]), (1000000000, .root cVrow true)]⟩,
    ⟨[(6, false, [.dat .bool])], [(268288, .box [.own 1000000300, .same 266240]), (1000000300, .root cVrow true)]⟩, none⟩)]
theorem e_spec_l9Row : fnDen ⟨tis, fns_205, [], false⟩ a_spec_l9Row Try.f247 (codeOf Try.f247) [.val true cVtab false, .val true cVrow false] [.val true cVtab true] = fun a => spec_l9Row a.1 a.2 := by kernel_rfl
theorem m_spec_l9Row : Meets Try.prog 247 F_spec_l9Row := by
  have h := meets_of (ann := a_spec_l9Row) (ps := [.val true cVtab false, .val true cVrow false]) (rs := [.val true cVtab true]) g_205 mixed Try.func247 (by kernel_rfl) (by kernel_rfl : Try.f247.body = some (codeOf Try.f247))
  rw [e_spec_l9Row] at h
  exact h
noncomputable def fns_247 : List (FuncId × Fn) := (247, F_spec_l9Row) :: fns_205
theorem g_247 : Good Try.prog ⟨tis, fns_247, [], false⟩ := g_205.cons m_spec_l9Row
noncomputable def spec_l18Status (b0 : Bridge) (id1 : Int) (n2 : Int) : Option (Bridge × Int) :=
  (spec_RowAt (b0.2.2.2.2.1, b0.2.2.2.2.2.1) id1).bind fun t12 =>
  (cond (n2 == 4) (some (decide (t12 < 0))) (some false)).bind fun t19 =>
  (cond t19 (some (decide ((b0.2.2.2.2.1.length : Int) < 6))) (some false)).bind fun t26 =>
  cond t26
    ((spec_l9Row (b0.2.2.2.2.1, b0.2.2.2.2.2.1) (id1, 0, 0)).bind fun t31 =>
    some ((b0.1, b0.2.1, b0.2.2.1, b0.2.2.2.1, t31.1, t31.2, b0.2.2.2.2.2.2.1, b0.2.2.2.2.2.2.2.1, b0.2.2.2.2.2.2.2.2.1, b0.2.2.2.2.2.2.2.2.2.1, b0.2.2.2.2.2.2.2.2.2.2), 0))
    ((cond (n2 == 6) (some (decide (t12 ≥ 0))) (some false)).bind fun t40 =>
    cond t40
      ((cutIx b0.2.2.2.2.1.length 0 t12).bind fun p =>
      (app ([] : List Vrow) ((b0.2.2.2.2.1.take p.2).drop p.1)).bind fun zs47 =>
      (cutIx b0.2.2.2.2.1.length (w64 (t12 + 1)) (b0.2.2.2.2.1.length : Int)).bind fun p_1 =>
      (app zs47 ((b0.2.2.2.2.1.take p_1.2).drop p_1.1)).bind fun zs54 =>
      some ((b0.1, b0.2.1, b0.2.2.1, b0.2.2.2.1, zs54, b0.2.2.2.2.2.1, b0.2.2.2.2.2.2.1, b0.2.2.2.2.2.2.2.1, b0.2.2.2.2.2.2.2.2.1, b0.2.2.2.2.2.2.2.2.2.1, b0.2.2.2.2.2.2.2.2.2.2), 0))
      (some (b0, 2)))
noncomputable def F_spec_l18Status : Fn := ⟨[.val true cBridge true, .val false (.one (.int .i64)) false, .val false (.one (.int .i64)) false], [.val true cBridge true, .val false (.one (.int .i64)) true], fun a => spec_l18Status a.1 a.2.1 a.2.2⟩
def a_spec_l18Status : List (Nat × LoopAnn) := []
theorem e_spec_l18Status : fnDen ⟨tis, fns_247, [], false⟩ a_spec_l18Status Try.f262 (codeOf Try.f262) [.val true cBridge true, .val false (.one (.int .i64)) false, .val false (.one (.int .i64)) false] [.val true cBridge true, .val false (.one (.int .i64)) true] = fun a => spec_l18Status a.1 a.2.1 a.2.2 := by kernel_rfl
theorem m_spec_l18Status : Meets Try.prog 262 F_spec_l18Status := by
  have h := meets_of (ann := a_spec_l18Status) (ps := [.val true cBridge true, .val false (.one (.int .i64)) false, .val false (.one (.int .i64)) false]) (rs := [.val true cBridge true, .val false (.one (.int .i64)) true]) g_247 mixed Try.func262 (by kernel_rfl) (by kernel_rfl : Try.f262.body = some (codeOf Try.f262))
  rw [e_spec_l18Status] at h
  exact h
noncomputable def fns_262 : List (FuncId × Fn) := (262, F_spec_l18Status) :: fns_247
theorem g_262 : Good Try.prog ⟨tis, fns_262, [], false⟩ := g_247.cons m_spec_l18Status
noncomputable def spec_l18Row (b0 : Bridge) (c1 : Int) (id2 : Int) (n3 : Int) : Option (Bridge × Int) :=
  cond (c1 == 1)
    ((spec_l18Status b0 id2 n3).bind fun t16 =>
    some t16)
    ((shl .i64 1 (IntKind.u64.wrap ((b0.2.2.1.length : Int)))).bind fun t24 =>
    (spec_l1In n3 0 (w64 (t24 - 1))).bind fun t26 =>
    cond (!t26)
      (some (b0, 2))
      ((spec_RowAt (b0.2.2.2.2.1, b0.2.2.2.2.2.1) id2).bind fun t35 =>
      (ix b0.2.2.2.2.1.length t35).bind fun j36 =>
      (b0.2.2.2.2.1[j36]?).bind fun x37 =>
      cond (c1 == 2)
        ((spec_l9Row (b0.2.2.2.2.1, b0.2.2.2.2.2.1) (x37.1, n3, x37.2.2)).bind fun t47 =>
        some ((b0.1, b0.2.1, b0.2.2.1, b0.2.2.2.1, t47.1, t47.2, b0.2.2.2.2.2.2.1, b0.2.2.2.2.2.2.2.1, b0.2.2.2.2.2.2.2.2.1, b0.2.2.2.2.2.2.2.2.2.1, b0.2.2.2.2.2.2.2.2.2.2), 0))
        ((spec_l9Row (b0.2.2.2.2.1, b0.2.2.2.2.2.1) (x37.1, x37.2.1, n3)).bind fun t47_1 =>
        some ((b0.1, b0.2.1, b0.2.2.1, b0.2.2.2.1, t47_1.1, t47_1.2, b0.2.2.2.2.2.2.1, b0.2.2.2.2.2.2.2.1, b0.2.2.2.2.2.2.2.2.1, b0.2.2.2.2.2.2.2.2.2.1, b0.2.2.2.2.2.2.2.2.2.2), 0))))
noncomputable def F_spec_l18Row : Fn := ⟨[.val true cBridge true, .val false (.one (.int .i64)) false, .val false (.one (.int .i64)) false, .val false (.one (.int .i64)) false], [.val true cBridge true, .val false (.one (.int .i64)) true], fun a => spec_l18Row a.1 a.2.1 a.2.2.1 a.2.2.2⟩
def a_spec_l18Row : List (Nat × LoopAnn) := []
theorem e_spec_l18Row : fnDen ⟨tis, fns_262, [], false⟩ a_spec_l18Row Try.f206 (codeOf Try.f206) [.val true cBridge true, .val false (.one (.int .i64)) false, .val false (.one (.int .i64)) false, .val false (.one (.int .i64)) false] [.val true cBridge true, .val false (.one (.int .i64)) true] = fun a => spec_l18Row a.1 a.2.1 a.2.2.1 a.2.2.2 := by kernel_rfl
theorem m_spec_l18Row : Meets Try.prog 206 F_spec_l18Row := by
  have h := meets_of (ann := a_spec_l18Row) (ps := [.val true cBridge true, .val false (.one (.int .i64)) false, .val false (.one (.int .i64)) false, .val false (.one (.int .i64)) false]) (rs := [.val true cBridge true, .val false (.one (.int .i64)) true]) g_262 mixed Try.func206 (by kernel_rfl) (by kernel_rfl : Try.f206.body = some (codeOf Try.f206))
  rw [e_spec_l18Row] at h
  exact h
noncomputable def fns_206 : List (FuncId × Fn) := (206, F_spec_l18Row) :: fns_262
theorem g_206 : Good Try.prog ⟨tis, fns_206, [], false⟩ := g_262.cons m_spec_l18Row
noncomputable def spec_l18One (p0 : Bridge) (i1 : Bind) : Option (Bridge × Int) :=
  (spec_l11Copy p0).bind fun t9 =>
  (spec_l18May p0 i1.1).bind fun t13 =>
  cond (!t13)
    ((spec_l18Seen p0 i1.1).bind fun t18 =>
    cond t18 (some (t9, 4)) (some (t9, 3)))
    ((cut i1.1 3 (i1.1.length : Int)).bind fun t23 =>
    (at? t23 0).bind fun x25 =>
    cond (x25 == 1)
      (cond (i1.2.1 != 4)
        (some (t9, 1))
        (let t34 := decide ((i1.2.2.2.1.length : Int) > 10)
        cond t34
          (some (t9, 2))
          (some ((t9.1, i1.2.2.2.1, t9.2.2.1, t9.2.2.2.1, t9.2.2.2.2.1, t9.2.2.2.2.2.1, t9.2.2.2.2.2.2.1, t9.2.2.2.2.2.2.2.1, t9.2.2.2.2.2.2.2.2.1, t9.2.2.2.2.2.2.2.2.2.1, t9.2.2.2.2.2.2.2.2.2.2), 0))))
      (cond (i1.2.1 != 2)
        (some (t9, 1))
        ((at? t23 0).bind fun x52 =>
        cond (x52 == 2)
          ((at? t23 1).bind fun x57 =>
          (at? t23 2).bind fun x60 =>
          (spec_l18Port t9 x57 (w64 (x60 - 1)) i1.2.2.1).bind fun t66 =>
          some t66)
          ((at? t23 1).bind fun x71 =>
          (at? t23 2).bind fun x74 =>
          (spec_l18Row t9 x71 x74 i1.2.2.1).bind fun t79 =>
          some t79))))
noncomputable def F_spec_l18One : Fn := ⟨[.val true cBridge false, .val true cBind false], [.val true cBridge true, .val false (.one (.int .i64)) true], fun a => spec_l18One a.1 a.2⟩
def a_spec_l18One : List (Nat × LoopAnn) := []
theorem e_spec_l18One : fnDen ⟨tis, fns_206, [], false⟩ a_spec_l18One Try.f131 (codeOf Try.f131) [.val true cBridge false, .val true cBind false] [.val true cBridge true, .val false (.one (.int .i64)) true] = fun a => spec_l18One a.1 a.2 := by kernel_rfl
theorem m_spec_l18One : Meets Try.prog 131 F_spec_l18One := by
  have h := meets_of (ann := a_spec_l18One) (ps := [.val true cBridge false, .val true cBind false]) (rs := [.val true cBridge true, .val false (.one (.int .i64)) true]) g_206 mixed Try.func131 (by kernel_rfl) (by kernel_rfl : Try.f131.body = some (codeOf Try.f131))
  rw [e_spec_l18One] at h
  exact h
noncomputable def fns_131 : List (FuncId × Fn) := (131, F_spec_l18One) :: fns_206
theorem g_131 : Good Try.prog ⟨tis, fns_131, [], false⟩ := g_206.cons m_spec_l18One
noncomputable def spec_SetOne (b0 : Bridge) (x1 : Bind) : Option (Bridge × Int) :=
  (spec_BridgeOk b0).bind fun t7 =>
  cond (!t7)
    ((spec_l11Copy b0).bind fun t10 =>
    some (t10, 3))
    ((spec_l18One b0 x1).bind fun t13 =>
    some t13)
noncomputable def F_spec_SetOne : Fn := ⟨[.val true cBridge false, .val true cBind false], [.val true cBridge true, .val false (.one (.int .i64)) true], fun a => spec_SetOne a.1 a.2⟩
def a_spec_SetOne : List (Nat × LoopAnn) := []
theorem e_spec_SetOne : fnDen ⟨tis, fns_131, [], false⟩ a_spec_SetOne Try.f59 (codeOf Try.f59) [.val true cBridge false, .val true cBind false] [.val true cBridge true, .val false (.one (.int .i64)) true] = fun a => spec_SetOne a.1 a.2 := by kernel_rfl
theorem m_spec_SetOne : Meets Try.prog 59 F_spec_SetOne := by
  have h := meets_of (ann := a_spec_SetOne) (ps := [.val true cBridge false, .val true cBind false]) (rs := [.val true cBridge true, .val false (.one (.int .i64)) true]) g_131 mixed Try.func59 (by kernel_rfl) (by kernel_rfl : Try.f59.body = some (codeOf Try.f59))
  rw [e_spec_SetOne] at h
  exact h
noncomputable def fns_59 : List (FuncId × Fn) := (59, F_spec_SetOne) :: fns_131
theorem g_59 : Good Try.prog ⟨tis, fns_59, [], false⟩ := g_131.cons m_spec_SetOne
noncomputable def laws_toVal (a0 : Val) : Option Val :=
  (laws_toIntS a0.2.2.2).bind fun t15 =>
  some (a0.1, a0.2.1, a0.2.2.1, t15)
noncomputable def F_laws_toVal : Fn := ⟨[.val true cVal false], [.val true cVal true], fun a => laws_toVal a⟩
def a_laws_toVal : List (Nat × LoopAnn) := []
theorem e_laws_toVal : fnDen ⟨tis, fns_59, [], false⟩ a_laws_toVal Try.f132 (codeOf Try.f132) [.val true cVal false] [.val true cVal true] = fun a => laws_toVal a := by kernel_rfl
theorem m_laws_toVal : Meets Try.prog 132 F_laws_toVal := by
  have h := meets_of (ann := a_laws_toVal) (ps := [.val true cVal false]) (rs := [.val true cVal true]) g_59 mixed Try.func132 (by kernel_rfl) (by kernel_rfl : Try.f132.body = some (codeOf Try.f132))
  rw [e_laws_toVal] at h
  exact h
noncomputable def fns_132 : List (FuncId × Fn) := (132, F_laws_toVal) :: fns_59
theorem g_132 : Good Try.prog ⟨tis, fns_132, [], false⟩ := g_59.cons m_laws_toVal
noncomputable def laws_toBind (a0 : Bind) : Option Bind :=
  (laws_toIntS a0.1).bind fun t6 =>
  (laws_toVal a0.2).bind fun t10 =>
  some (t6, t10.1, t10.2.1, t10.2.2.1, t10.2.2.2)
noncomputable def F_laws_toBind : Fn := ⟨[.val true cBind false], [.val true cBind true], fun a => laws_toBind a⟩
def a_laws_toBind : List (Nat × LoopAnn) := []
theorem e_laws_toBind : fnDen ⟨tis, fns_132, [], false⟩ a_laws_toBind Try.f60 (codeOf Try.f60) [.val true cBind false] [.val true cBind true] = fun a => laws_toBind a := by kernel_rfl
theorem m_laws_toBind : Meets Try.prog 60 F_laws_toBind := by
  have h := meets_of (ann := a_laws_toBind) (ps := [.val true cBind false]) (rs := [.val true cBind true]) g_132 mixed Try.func60 (by kernel_rfl) (by kernel_rfl : Try.f60.body = some (codeOf Try.f60))
  rw [e_laws_toBind] at h
  exact h
noncomputable def fns_60 : List (FuncId × Fn) := (60, F_laws_toBind) :: fns_132
theorem g_60 : Good Try.prog ⟨tis, fns_60, [], false⟩ := g_132.cons m_laws_toBind
noncomputable def laws_eqVal (a0 : Val) (b1 : Val) : Option Bool :=
  cond (a0.1 != b1.1)
    (some false)
    (cond (a0.2.1 != b1.2.1)
      (some false)
      (cond (!(a0.2.2.1 == b1.2.2.1))
        (some false)
        ((laws_eqIntS a0.2.2.2 b1.2.2.2).bind fun t24 =>
        cond (!t24) (some false) (some true))))
noncomputable def F_laws_eqVal : Fn := ⟨[.val true cVal false, .val true cVal false], [.val false (.one .bool) true], fun a => laws_eqVal a.1 a.2⟩
def a_laws_eqVal : List (Nat × LoopAnn) := []
theorem e_laws_eqVal : fnDen ⟨tis, fns_60, [], false⟩ a_laws_eqVal Try.f133 (codeOf Try.f133) [.val true cVal false, .val true cVal false] [.val false (.one .bool) true] = fun a => laws_eqVal a.1 a.2 := by kernel_rfl
theorem m_laws_eqVal : Meets Try.prog 133 F_laws_eqVal := by
  have h := meets_of (ann := a_laws_eqVal) (ps := [.val true cVal false, .val true cVal false]) (rs := [.val false (.one .bool) true]) g_60 mixed Try.func133 (by kernel_rfl) (by kernel_rfl : Try.f133.body = some (codeOf Try.f133))
  rw [e_laws_eqVal] at h
  exact h
noncomputable def fns_133 : List (FuncId × Fn) := (133, F_laws_eqVal) :: fns_60
theorem g_133 : Good Try.prog ⟨tis, fns_133, [], false⟩ := g_60.cons m_laws_eqVal
noncomputable def laws_eqBind (a0 : Bind) (b1 : Bind) : Option Bool :=
  (laws_eqIntS a0.1 b1.1).bind fun t9 =>
  cond (!t9)
    (some false)
    ((laws_eqVal a0.2 b1.2).bind fun t15 =>
    cond (!t15) (some false) (some true))
noncomputable def F_laws_eqBind : Fn := ⟨[.val true cBind false, .val true cBind false], [.val false (.one .bool) true], fun a => laws_eqBind a.1 a.2⟩
def a_laws_eqBind : List (Nat × LoopAnn) := []
theorem e_laws_eqBind : fnDen ⟨tis, fns_133, [], false⟩ a_laws_eqBind Try.f61 (codeOf Try.f61) [.val true cBind false, .val true cBind false] [.val false (.one .bool) true] = fun a => laws_eqBind a.1 a.2 := by kernel_rfl
theorem m_laws_eqBind : Meets Try.prog 61 F_laws_eqBind := by
  have h := meets_of (ann := a_laws_eqBind) (ps := [.val true cBind false, .val true cBind false]) (rs := [.val false (.one .bool) true]) g_133 mixed Try.func61 (by kernel_rfl) (by kernel_rfl : Try.f61.body = some (codeOf Try.f61))
  rw [e_laws_eqBind] at h
  exact h
noncomputable def fns_61 : List (FuncId × Fn) := (61, F_laws_eqBind) :: fns_133
theorem g_61 : Good Try.prog ⟨tis, fns_61, [], false⟩ := g_133.cons m_laws_eqBind
noncomputable def laws_heldPtS_l0 (p0 : List Pt) (i1_1 : Int) (t5 : Int) : Option ((Int × Int) ⊕ (Int ⊕ Int)) :=
  cond (decide (t5 < (p0.length : Int)))
    ((at? p0 t5).bind fun x14 =>
    cond (!(x14.1 == ((i1_1.tmod 3) == 0)))
      (some (.inr (.inr (-1))))
      ((at? p0 t5).bind fun x25 =>
      cond (x25.2.1 != (w64 (i1_1 + 1)))
        (some (.inr (.inr (-1))))
        (let i1_2 := w64 ((w64 (i1_1 + 1)) + 1)
        (at? p0 t5).bind fun x34 =>
        cond (!(x34.2.2.1 == ((i1_2.tmod 3) == 0)))
          (some (.inr (.inr (-1))))
          ((at? p0 t5).bind fun x45 =>
          cond (x45.2.2.2.1 != (w64 (i1_2 + 1)))
            (some (.inr (.inr (-1))))
            (let i1_3 := w64 ((w64 (i1_2 + 1)) + 1)
            (at? p0 t5).bind fun x55 =>
            cond (x55.2.2.2.2.1 != i1_3)
              (some (.inr (.inr (-1))))
              ((at? p0 t5).bind fun x65 =>
              cond (x65.2.2.2.2.2.1 != (w64 (i1_3 + 1)))
                (some (.inr (.inr (-1))))
                (let i1_4 := w64 ((w64 (i1_3 + 1)) + 1)
                (at? p0 t5).bind fun x75 =>
                cond (x75.2.2.2.2.2.2.1 != i1_4)
                  (some (.inr (.inr (-1))))
                  ((at? p0 t5).bind fun x85 =>
                  cond (x85.2.2.2.2.2.2.2 != (w64 (i1_4 + 1)))
                    (some (.inr (.inr (-1))))
                    (let i1_5 := w64 ((w64 (i1_4 + 1)) + 1)
                    some (.inl (i1_5, w64 (t5 + 1))))))))))))
    (some (.inr (.inl i1_1)))
noncomputable def laws_heldPtS (p0 : List Pt) (i1 : Int) : Option Int :=
  (loop (fun z => laws_heldPtS_l0 p0 z.1 z.2) (i1, 0)).bind (Sum.elim (fun d =>
    some d) (fun r => some r))
noncomputable def F_laws_heldPtS : Fn := ⟨[.val false (.one (.sl cPt)) false, .val false (.one (.int .i64)) false], [.val false (.one (.int .i64)) true], fun a => laws_heldPtS a.1 a.2⟩
def a_laws_heldPtS : List (Nat × LoopAnn) := [(0, ⟨⟨[(1, false, [.dat (.int .i64)]), (5, false, [.dat (.int .i64)])], []⟩,
    ⟨[(1, false, [.dat (.int .i64)])], []⟩, some ⟨[(4, false, [.dat (.int .i64)])], []⟩⟩)]
theorem e_laws_heldPtS : fnDen ⟨tis, fns_61, [], false⟩ a_laws_heldPtS Try.f135 (codeOf Try.f135) [.val false (.one (.sl cPt)) false, .val false (.one (.int .i64)) false] [.val false (.one (.int .i64)) true] = fun a => laws_heldPtS a.1 a.2 := by kernel_rfl
theorem m_laws_heldPtS : Meets Try.prog 135 F_laws_heldPtS := by
  have h := meets_of (ann := a_laws_heldPtS) (ps := [.val false (.one (.sl cPt)) false, .val false (.one (.int .i64)) false]) (rs := [.val false (.one (.int .i64)) true]) g_61 mixed Try.func135 (by kernel_rfl) (by kernel_rfl : Try.f135.body = some (codeOf Try.f135))
  rw [e_laws_heldPtS] at h
  exact h
noncomputable def fns_135 : List (FuncId × Fn) := (135, F_laws_heldPtS) :: fns_61
theorem g_135 : Good Try.prog ⟨tis, fns_135, [], false⟩ := g_61.cons m_laws_heldPtS
noncomputable def laws_heldFentS_l0 (a0 : List Fent) (k1_1 : Int) (i5 : Int) : Option ((Int × Int) ⊕ (Int ⊕ Int)) :=
  cond (decide (i5 < (a0.length : Int)))
    ((at? a0 i5).bind fun x14 =>
    cond (x14.1 != k1_1)
      (some (.inr (.inr (-1))))
      ((at? a0 i5).bind fun x23 =>
      cond (x23.2.1 != (w64 (k1_1 + 1)))
        (some (.inr (.inr (-1))))
        (let k1_2 := w64 ((w64 (k1_1 + 1)) + 1)
        (at? a0 i5).bind fun x32 =>
        cond (x32.2.2.1 != k1_2)
          (some (.inr (.inr (-1))))
          ((at? a0 i5).bind fun x41 =>
          cond (x41.2.2.2.1 != (w64 (k1_2 + 1)))
            (some (.inr (.inr (-1))))
            (let k1_3 := w64 ((w64 (k1_2 + 1)) + 1)
            (at? a0 i5).bind fun x50 =>
            cond (!(x50.2.2.2.2 == ((k1_3.tmod 3) == 0)))
              (some (.inr (.inr (-1))))
              (some (.inl (w64 (k1_3 + 1), w64 (i5 + 1)))))))))
    (some (.inr (.inl k1_1)))
noncomputable def laws_heldFentS (a0 : List Fent) (k1 : Int) : Option Int :=
  (loop (fun z => laws_heldFentS_l0 a0 z.1 z.2) (k1, 0)).bind (Sum.elim (fun d =>
    some d) (fun r => some r))
noncomputable def F_laws_heldFentS : Fn := ⟨[.val false (.one (.sl cFent)) false, .val false (.one (.int .i64)) false], [.val false (.one (.int .i64)) true], fun a => laws_heldFentS a.1 a.2⟩
def a_laws_heldFentS : List (Nat × LoopAnn) := [(0, ⟨⟨[(1, false, [.dat (.int .i64)]), (5, false, [.dat (.int .i64)])], []⟩,
    ⟨[(1, false, [.dat (.int .i64)])], []⟩, some ⟨[(4, false, [.dat (.int .i64)])], []⟩⟩)]
theorem e_laws_heldFentS : fnDen ⟨tis, fns_135, [], false⟩ a_laws_heldFentS Try.f136 (codeOf Try.f136) [.val false (.one (.sl cFent)) false, .val false (.one (.int .i64)) false] [.val false (.one (.int .i64)) true] = fun a => laws_heldFentS a.1 a.2 := by kernel_rfl
theorem m_laws_heldFentS : Meets Try.prog 136 F_laws_heldFentS := by
  have h := meets_of (ann := a_laws_heldFentS) (ps := [.val false (.one (.sl cFent)) false, .val false (.one (.int .i64)) false]) (rs := [.val false (.one (.int .i64)) true]) g_135 mixed Try.func136 (by kernel_rfl) (by kernel_rfl : Try.f136.body = some (codeOf Try.f136))
  rw [e_laws_heldFentS] at h
  exact h
noncomputable def fns_136 : List (FuncId × Fn) := (136, F_laws_heldFentS) :: fns_135
theorem g_136 : Good Try.prog ⟨tis, fns_136, [], false⟩ := g_135.cons m_laws_heldFentS
noncomputable def laws_heldIntS_l0 (a0 : List Int) (k1_1 : Int) (i5 : Int) : Option ((Int × Int) ⊕ (Int ⊕ Int)) :=
  cond (decide (i5 < (a0.length : Int)))
    ((at? a0 i5).bind fun x14 =>
    cond (x14 != k1_1)
      (some (.inr (.inr (-1))))
      (some (.inl (w64 (k1_1 + 1), w64 (i5 + 1)))))
    (some (.inr (.inl k1_1)))
noncomputable def laws_heldIntS (a0 : List Int) (k1 : Int) : Option Int :=
  (loop (fun z => laws_heldIntS_l0 a0 z.1 z.2) (k1, 0)).bind (Sum.elim (fun d =>
    some d) (fun r => some r))
noncomputable def F_laws_heldIntS : Fn := ⟨[.val false (.one (.sl (.one (.int .i64)))) false, .val false (.one (.int .i64)) false], [.val false (.one (.int .i64)) true], fun a => laws_heldIntS a.1 a.2⟩
def a_laws_heldIntS : List (Nat × LoopAnn) := [(0, ⟨⟨[(1, false, [.dat (.int .i64)]), (5, false, [.dat (.int .i64)])], []⟩,
    ⟨[(1, false, [.dat (.int .i64)])], []⟩, some ⟨[(4, false, [.dat (.int .i64)])], []⟩⟩)]
theorem e_laws_heldIntS : fnDen ⟨tis, fns_136, [], false⟩ a_laws_heldIntS Try.f125 (codeOf Try.f125) [.val false (.one (.sl (.one (.int .i64)))) false, .val false (.one (.int .i64)) false] [.val false (.one (.int .i64)) true] = fun a => laws_heldIntS a.1 a.2 := by kernel_rfl
theorem m_laws_heldIntS : Meets Try.prog 125 F_laws_heldIntS := by
  have h := meets_of (ann := a_laws_heldIntS) (ps := [.val false (.one (.sl (.one (.int .i64)))) false, .val false (.one (.int .i64)) false]) (rs := [.val false (.one (.int .i64)) true]) g_136 mixed Try.func125 (by kernel_rfl) (by kernel_rfl : Try.f125.body = some (codeOf Try.f125))
  rw [e_laws_heldIntS] at h
  exact h
noncomputable def fns_125 : List (FuncId × Fn) := (125, F_laws_heldIntS) :: fns_136
theorem g_125 : Good Try.prog ⟨tis, fns_125, [], false⟩ := g_136.cons m_laws_heldIntS
noncomputable def laws_heldVrowS_l0 (a0 : List Vrow) (k1_1 : Int) (i5 : Int) : Option ((Int × Int) ⊕ (Int ⊕ Int)) :=
  cond (decide (i5 < (a0.length : Int)))
    ((at? a0 i5).bind fun x14 =>
    cond (x14.1 != k1_1)
      (some (.inr (.inr (-1))))
      ((at? a0 i5).bind fun x23 =>
      cond (x23.2.1 != (w64 (k1_1 + 1)))
        (some (.inr (.inr (-1))))
        (let k1_2 := w64 ((w64 (k1_1 + 1)) + 1)
        (at? a0 i5).bind fun x32 =>
        cond (x32.2.2 != k1_2)
          (some (.inr (.inr (-1))))
          (some (.inl (w64 (k1_2 + 1), w64 (i5 + 1)))))))
    (some (.inr (.inl k1_1)))
noncomputable def laws_heldVrowS (a0 : List Vrow) (k1 : Int) : Option Int :=
  (loop (fun z => laws_heldVrowS_l0 a0 z.1 z.2) (k1, 0)).bind (Sum.elim (fun d =>
    some d) (fun r => some r))
noncomputable def F_laws_heldVrowS : Fn := ⟨[.val false (.one (.sl cVrow)) false, .val false (.one (.int .i64)) false], [.val false (.one (.int .i64)) true], fun a => laws_heldVrowS a.1 a.2⟩
def a_laws_heldVrowS : List (Nat × LoopAnn) := [(0, ⟨⟨[(1, false, [.dat (.int .i64)]), (5, false, [.dat (.int .i64)])], []⟩,
    ⟨[(1, false, [.dat (.int .i64)])], []⟩, some ⟨[(4, false, [.dat (.int .i64)])], []⟩⟩)]
theorem e_laws_heldVrowS : fnDen ⟨tis, fns_125, [], false⟩ a_laws_heldVrowS Try.f202 (codeOf Try.f202) [.val false (.one (.sl cVrow)) false, .val false (.one (.int .i64)) false] [.val false (.one (.int .i64)) true] = fun a => laws_heldVrowS a.1 a.2 := by kernel_rfl
theorem m_laws_heldVrowS : Meets Try.prog 202 F_laws_heldVrowS := by
  have h := meets_of (ann := a_laws_heldVrowS) (ps := [.val false (.one (.sl cVrow)) false, .val false (.one (.int .i64)) false]) (rs := [.val false (.one (.int .i64)) true]) g_125 mixed Try.func202 (by kernel_rfl) (by kernel_rfl : Try.f202.body = some (codeOf Try.f202))
  rw [e_laws_heldVrowS] at h
  exact h
noncomputable def fns_202 : List (FuncId × Fn) := (202, F_laws_heldVrowS) :: fns_125
theorem g_202 : Good Try.prog ⟨tis, fns_202, [], false⟩ := g_125.cons m_laws_heldVrowS
noncomputable def laws_heldVtab (a0 : Vtab) (k1 : Int) : Option Int :=
  (laws_heldVrowS a0.1 k1).bind fun t8 =>
  cond (decide (t8 < 0))
    (some (-1))
    ((laws_heldIntS a0.2 t8).bind fun t14 =>
    cond (decide (t14 < 0)) (some (-1)) (some t14))
noncomputable def F_laws_heldVtab : Fn := ⟨[.val true cVtab false, .val false (.one (.int .i64)) false], [.val false (.one (.int .i64)) true], fun a => laws_heldVtab a.1 a.2⟩
def a_laws_heldVtab : List (Nat × LoopAnn) := []
theorem e_laws_heldVtab : fnDen ⟨tis, fns_202, [], false⟩ a_laws_heldVtab Try.f137 (codeOf Try.f137) [.val true cVtab false, .val false (.one (.int .i64)) false] [.val false (.one (.int .i64)) true] = fun a => laws_heldVtab a.1 a.2 := by kernel_rfl
theorem m_laws_heldVtab : Meets Try.prog 137 F_laws_heldVtab := by
  have h := meets_of (ann := a_laws_heldVtab) (ps := [.val true cVtab false, .val false (.one (.int .i64)) false]) (rs := [.val false (.one (.int .i64)) true]) g_202 mixed Try.func137 (by kernel_rfl) (by kernel_rfl : Try.f137.body = some (codeOf Try.f137))
  rw [e_laws_heldVtab] at h
  exact h
noncomputable def fns_137 : List (FuncId × Fn) := (137, F_laws_heldVtab) :: fns_202
theorem g_137 : Good Try.prog ⟨tis, fns_137, [], false⟩ := g_202.cons m_laws_heldVtab
noncomputable def laws_heldBridge (a0 : Bridge) (k1 : Int) : Option Int :=
  (laws_heldPtS a0.2.2.1 k1).bind fun t8 =>
  cond (decide (t8 < 0))
    (some (-1))
    ((laws_heldFentS a0.2.2.2.1 t8).bind fun t14 =>
    cond (decide (t14 < 0))
      (some (-1))
      ((laws_heldVtab (a0.2.2.2.2.1, a0.2.2.2.2.2.1) t14).bind fun t20 =>
      cond (decide (t20 < 0)) (some (-1)) (some t20)))
noncomputable def F_laws_heldBridge : Fn := ⟨[.val true cBridge false, .val false (.one (.int .i64)) false], [.val false (.one (.int .i64)) true], fun a => laws_heldBridge a.1 a.2⟩
def a_laws_heldBridge : List (Nat × LoopAnn) := []
theorem e_laws_heldBridge : fnDen ⟨tis, fns_137, [], false⟩ a_laws_heldBridge Try.f63 (codeOf Try.f63) [.val true cBridge false, .val false (.one (.int .i64)) false] [.val false (.one (.int .i64)) true] = fun a => laws_heldBridge a.1 a.2 := by kernel_rfl
theorem m_laws_heldBridge : Meets Try.prog 63 F_laws_heldBridge := by
  have h := meets_of (ann := a_laws_heldBridge) (ps := [.val true cBridge false, .val false (.one (.int .i64)) false]) (rs := [.val false (.one (.int .i64)) true]) g_137 mixed Try.func63 (by kernel_rfl) (by kernel_rfl : Try.f63.body = some (codeOf Try.f63))
  rw [e_laws_heldBridge] at h
  exact h
noncomputable def fns_63 : List (FuncId × Fn) := (63, F_laws_heldBridge) :: fns_137
theorem g_63 : Good Try.prog ⟨tis, fns_63, [], false⟩ := g_137.cons m_laws_heldBridge
noncomputable def laws_markPtS_l0 (i1 : Int) (t5 : Int) (l : List Pt) : Option ((Int × Int × List Pt) ⊕ (Int × List Pt)) :=
  cond (decide (t5 < (l.length : Int)))
    ((ix l.length t5).bind fun j17 =>
    (l[j17]?).bind fun x =>
    let ls : List Pt := l.set j17 ((i1.tmod 3) == 0, x.2.1, x.2.2.1, x.2.2.2.1, x.2.2.2.2.1, x.2.2.2.2.2.1, x.2.2.2.2.2.2.1, x.2.2.2.2.2.2.2)
    (ix ls.length t5).bind fun j24 =>
    (ls[j24]?).bind fun x_1 =>
    let ls_1 : List Pt := ls.set j24 (x_1.1, w64 (i1 + 1), x_1.2.2.1, x_1.2.2.2.1, x_1.2.2.2.2.1, x_1.2.2.2.2.2.1, x_1.2.2.2.2.2.2.1, x_1.2.2.2.2.2.2.2)
    (ix ls_1.length t5).bind fun j33 =>
    (ls_1[j33]?).bind fun x_2 =>
    let ls_2 : List Pt := ls_1.set j33 (x_2.1, x_2.2.1, ((w64 ((w64 (i1 + 1)) + 1)).tmod 3) == 0, x_2.2.2.2.1, x_2.2.2.2.2.1, x_2.2.2.2.2.2.1, x_2.2.2.2.2.2.2.1, x_2.2.2.2.2.2.2.2)
    let i1_1 := w64 ((w64 ((w64 (i1 + 1)) + 1)) + 1)
    (ix ls_2.length t5).bind fun j40 =>
    (ls_2[j40]?).bind fun x_3 =>
    let ls_3 : List Pt := ls_2.set j40 (x_3.1, x_3.2.1, x_3.2.2.1, i1_1, x_3.2.2.2.2.1, x_3.2.2.2.2.2.1, x_3.2.2.2.2.2.2.1, x_3.2.2.2.2.2.2.2)
    (ix ls_3.length t5).bind fun j48 =>
    (ls_3[j48]?).bind fun x_4 =>
    let ls_4 : List Pt := ls_3.set j48 (x_4.1, x_4.2.1, x_4.2.2.1, x_4.2.2.2.1, w64 (i1_1 + 1), x_4.2.2.2.2.2.1, x_4.2.2.2.2.2.2.1, x_4.2.2.2.2.2.2.2)
    let i1_2 := w64 ((w64 (i1_1 + 1)) + 1)
    (ix ls_4.length t5).bind fun j56 =>
    (ls_4[j56]?).bind fun x_5 =>
    let ls_5 : List Pt := ls_4.set j56 (x_5.1, x_5.2.1, x_5.2.2.1, x_5.2.2.2.1, x_5.2.2.2.2.1, i1_2, x_5.2.2.2.2.2.2.1, x_5.2.2.2.2.2.2.2)
    (ix ls_5.length t5).bind fun j64 =>
    (ls_5[j64]?).bind fun x_6 =>
    let ls_6 : List Pt := ls_5.set j64 (x_6.1, x_6.2.1, x_6.2.2.1, x_6.2.2.2.1, x_6.2.2.2.2.1, x_6.2.2.2.2.2.1, w64 (i1_2 + 1), x_6.2.2.2.2.2.2.2)
    let i1_3 := w64 ((w64 (i1_2 + 1)) + 1)
    (ix ls_6.length t5).bind fun j72 =>
    (ls_6[j72]?).bind fun x_7 =>
    let ls_7 : List Pt := ls_6.set j72 (x_7.1, x_7.2.1, x_7.2.2.1, x_7.2.2.2.1, x_7.2.2.2.2.1, x_7.2.2.2.2.2.1, x_7.2.2.2.2.2.2.1, i1_3)
    some (.inl (w64 (i1_3 + 1), w64 (t5 + 1), ls_7)))
    (some (.inr (i1, l)))
noncomputable def laws_markPtS (a0 : List Pt) (k1 : Int) : Option ((List Pt) × Int) :=
  (loop (fun z => laws_markPtS_l0 z.1 z.2.1 z.2.2) (k1, 0, a0)).bind fun d =>
  some (d.2, d.1)
theorem gt_0 : Good Try.prog ⟨tis, fns_63, [], true⟩ := g_63.trees marks_nil
noncomputable def K_laws_markPtS : MFn := ⟨false, (.one (.sl cPt)), fun a k => laws_markPtS a k⟩
def a_laws_markPtS : List (Nat × LoopAnn) := [(0, ⟨⟨[(1, false, [.dat (.int .i64)]), (5, false, [.dat (.int .i64)])], [(1, .tree cPt)]⟩,
    ⟨[(1, false, [.dat (.int .i64)])], [(1, .tree cPt)]⟩, none⟩)]
theorem e_laws_markPtS : markDen ⟨tis, fns_63, [], true⟩ a_laws_markPtS Try.f121 (codeOf Try.f121) false (.one (.sl cPt)) = fun a k => laws_markPtS a k := by kernel_rfl
theorem k_laws_markPtS : Marks Try.prog 121 K_laws_markPtS := by
  have h := marks_of (ann := a_laws_markPtS) (agg := false) (cs := (.one (.sl cPt))) gt_0 mixed Try.func121 (by kernel_rfl) (by kernel_rfl : Try.f121.body = some (codeOf Try.f121))
  rw [e_laws_markPtS] at h
  exact h
noncomputable def marks_121 : List (FuncId × MFn) := (121, K_laws_markPtS) :: []
theorem mk_121 : ∀ f M, find marks_121 f = some M → Marks Try.prog f M := marks_cons marks_nil k_laws_markPtS
theorem gt_121 : Good Try.prog ⟨tis, fns_63, marks_121, true⟩ := g_63.trees mk_121
noncomputable def laws_markFentS_l0 (k1_1 : Int) (i5 : Int) (l : List Fent) : Option ((Int × Int × List Fent) ⊕ (Int × List Fent)) :=
  cond (decide (i5 < (l.length : Int)))
    ((ix l.length i5).bind fun j15 =>
    (l[j15]?).bind fun x =>
    let ls : List Fent := l.set j15 (k1_1, x.2.1, x.2.2.1, x.2.2.2.1, x.2.2.2.2)
    (ix ls.length i5).bind fun j22 =>
    (ls[j22]?).bind fun x_1 =>
    let ls_1 : List Fent := ls.set j22 (x_1.1, w64 (k1_1 + 1), x_1.2.2.1, x_1.2.2.2.1, x_1.2.2.2.2)
    let k1_2 := w64 ((w64 (k1_1 + 1)) + 1)
    (ix ls_1.length i5).bind fun j29 =>
    (ls_1[j29]?).bind fun x_2 =>
    let ls_2 : List Fent := ls_1.set j29 (x_2.1, x_2.2.1, k1_2, x_2.2.2.2.1, x_2.2.2.2.2)
    (ix ls_2.length i5).bind fun j36 =>
    (ls_2[j36]?).bind fun x_3 =>
    let ls_3 : List Fent := ls_2.set j36 (x_3.1, x_3.2.1, x_3.2.2.1, w64 (k1_2 + 1), x_3.2.2.2.2)
    let k1_3 := w64 ((w64 (k1_2 + 1)) + 1)
    (ix ls_3.length i5).bind fun j45 =>
    (ls_3[j45]?).bind fun x_4 =>
    let ls_4 : List Fent := ls_3.set j45 (x_4.1, x_4.2.1, x_4.2.2.1, x_4.2.2.2.1, (k1_3.tmod 3) == 0)
    some (.inl (w64 (k1_3 + 1), w64 (i5 + 1), ls_4)))
    (some (.inr (k1_1, l)))
noncomputable def laws_markFentS (a0 : List Fent) (k1 : Int) : Option ((List Fent) × Int) :=
  (loop (fun z => laws_markFentS_l0 z.1 z.2.1 z.2.2) (k1, 0, a0)).bind fun d =>
  some (d.2, d.1)
noncomputable def K_laws_markFentS : MFn := ⟨false, (.one (.sl cFent)), fun a k => laws_markFentS a k⟩
def a_laws_markFentS : List (Nat × LoopAnn) := [(0, ⟨⟨[(1, false, [.dat (.int .i64)]), (5, false, [.dat (.int .i64)])], [(1, .tree cFent)]⟩,
    ⟨[(1, false, [.dat (.int .i64)])], [(1, .tree cFent)]⟩, none⟩)]
theorem e_laws_markFentS : markDen ⟨tis, fns_63, marks_121, true⟩ a_laws_markFentS Try.f122 (codeOf Try.f122) false (.one (.sl cFent)) = fun a k => laws_markFentS a k := by kernel_rfl
theorem k_laws_markFentS : Marks Try.prog 122 K_laws_markFentS := by
  have h := marks_of (ann := a_laws_markFentS) (agg := false) (cs := (.one (.sl cFent))) gt_121 mixed Try.func122 (by kernel_rfl) (by kernel_rfl : Try.f122.body = some (codeOf Try.f122))
  rw [e_laws_markFentS] at h
  exact h
noncomputable def marks_122 : List (FuncId × MFn) := (122, K_laws_markFentS) :: marks_121
theorem mk_122 : ∀ f M, find marks_122 f = some M → Marks Try.prog f M := marks_cons mk_121 k_laws_markFentS
theorem gt_122 : Good Try.prog ⟨tis, fns_63, marks_122, true⟩ := g_63.trees mk_122
noncomputable def laws_markIntS_l0 (k1_1 : Int) (i5 : Int) (l : List Int) : Option ((Int × Int × List Int) ⊕ (Int × List Int)) :=
  cond (decide (i5 < (l.length : Int)))
    ((ix l.length i5).bind fun j15 =>
    (l[j15]?).bind fun x =>
    let ls : List Int := l.set j15 k1_1
    some (.inl (w64 (k1_1 + 1), w64 (i5 + 1), ls)))
    (some (.inr (k1_1, l)))
noncomputable def laws_markIntS (a0 : List Int) (k1 : Int) : Option ((List Int) × Int) :=
  (loop (fun z => laws_markIntS_l0 z.1 z.2.1 z.2.2) (k1, 0, a0)).bind fun d =>
  some (d.2, d.1)
noncomputable def K_laws_markIntS : MFn := ⟨false, (.one (.sl (.one (.int .i64)))), fun a k => laws_markIntS a k⟩
def a_laws_markIntS : List (Nat × LoopAnn) := [(0, ⟨⟨[(1, false, [.dat (.int .i64)]), (5, false, [.dat (.int .i64)])], [(1, .tree (.one (.int .i64)))]⟩,
    ⟨[(1, false, [.dat (.int .i64)])], [(1, .tree (.one (.int .i64)))]⟩, none⟩)]
theorem e_laws_markIntS : markDen ⟨tis, fns_63, marks_122, true⟩ a_laws_markIntS Try.f51 (codeOf Try.f51) false (.one (.sl (.one (.int .i64)))) = fun a k => laws_markIntS a k := by kernel_rfl
theorem k_laws_markIntS : Marks Try.prog 51 K_laws_markIntS := by
  have h := marks_of (ann := a_laws_markIntS) (agg := false) (cs := (.one (.sl (.one (.int .i64))))) gt_122 mixed Try.func51 (by kernel_rfl) (by kernel_rfl : Try.f51.body = some (codeOf Try.f51))
  rw [e_laws_markIntS] at h
  exact h
noncomputable def marks_51 : List (FuncId × MFn) := (51, K_laws_markIntS) :: marks_122
theorem mk_51 : ∀ f M, find marks_51 f = some M → Marks Try.prog f M := marks_cons mk_122 k_laws_markIntS
theorem gt_51 : Good Try.prog ⟨tis, fns_63, marks_51, true⟩ := g_63.trees mk_51
noncomputable def laws_markVrowS_l0 (k1_1 : Int) (i5 : Int) (l : List Vrow) : Option ((Int × Int × List Vrow) ⊕ (Int × List Vrow)) :=
  cond (decide (i5 < (l.length : Int)))
    ((ix l.length i5).bind fun j15 =>
    (l[j15]?).bind fun x =>
    let ls : List Vrow := l.set j15 (k1_1, x.2.1, x.2.2)
    (ix ls.length i5).bind fun j22 =>
    (ls[j22]?).bind fun x_1 =>
    let ls_1 : List Vrow := ls.set j22 (x_1.1, w64 (k1_1 + 1), x_1.2.2)
    let k1_2 := w64 ((w64 (k1_1 + 1)) + 1)
    (ix ls_1.length i5).bind fun j29 =>
    (ls_1[j29]?).bind fun x_2 =>
    let ls_2 : List Vrow := ls_1.set j29 (x_2.1, x_2.2.1, k1_2)
    some (.inl (w64 (k1_2 + 1), w64 (i5 + 1), ls_2)))
    (some (.inr (k1_1, l)))
noncomputable def laws_markVrowS (a0 : List Vrow) (k1 : Int) : Option ((List Vrow) × Int) :=
  (loop (fun z => laws_markVrowS_l0 z.1 z.2.1 z.2.2) (k1, 0, a0)).bind fun d =>
  some (d.2, d.1)
noncomputable def K_laws_markVrowS : MFn := ⟨false, (.one (.sl cVrow)), fun a k => laws_markVrowS a k⟩
def a_laws_markVrowS : List (Nat × LoopAnn) := [(0, ⟨⟨[(1, false, [.dat (.int .i64)]), (5, false, [.dat (.int .i64)])], [(1, .tree cVrow)]⟩,
    ⟨[(1, false, [.dat (.int .i64)])], [(1, .tree cVrow)]⟩, none⟩)]
theorem e_laws_markVrowS : markDen ⟨tis, fns_63, marks_51, true⟩ a_laws_markVrowS Try.f197 (codeOf Try.f197) false (.one (.sl cVrow)) = fun a k => laws_markVrowS a k := by kernel_rfl
theorem k_laws_markVrowS : Marks Try.prog 197 K_laws_markVrowS := by
  have h := marks_of (ann := a_laws_markVrowS) (agg := false) (cs := (.one (.sl cVrow))) gt_51 mixed Try.func197 (by kernel_rfl) (by kernel_rfl : Try.f197.body = some (codeOf Try.f197))
  rw [e_laws_markVrowS] at h
  exact h
noncomputable def marks_197 : List (FuncId × MFn) := (197, K_laws_markVrowS) :: marks_51
theorem mk_197 : ∀ f M, find marks_197 f = some M → Marks Try.prog f M := marks_cons mk_51 k_laws_markVrowS
theorem gt_197 : Good Try.prog ⟨tis, fns_63, marks_197, true⟩ := g_63.trees mk_197
noncomputable def laws_markVtab (a0 : Vtab) (k1 : Int) : Option (Vtab × Int) :=
  (laws_markVrowS a0.1 k1).bind fun z =>
  (laws_markIntS a0.2 z.2).bind fun z_1 =>
  some ((z.1, z_1.1), z_1.2)
noncomputable def K_laws_markVtab : MFn := ⟨true, cVtab, fun a k => laws_markVtab a k⟩
def a_laws_markVtab : List (Nat × LoopAnn) := []
theorem e_laws_markVtab : markDen ⟨tis, fns_63, marks_197, true⟩ a_laws_markVtab Try.f123 (codeOf Try.f123) true cVtab = fun a k => laws_markVtab a k := by kernel_rfl
theorem k_laws_markVtab : Marks Try.prog 123 K_laws_markVtab := by
  have h := marks_of (ann := a_laws_markVtab) (agg := true) (cs := cVtab) gt_197 mixed Try.func123 (by kernel_rfl) (by kernel_rfl : Try.f123.body = some (codeOf Try.f123))
  rw [e_laws_markVtab] at h
  exact h
noncomputable def marks_123 : List (FuncId × MFn) := (123, K_laws_markVtab) :: marks_197
theorem mk_123 : ∀ f M, find marks_123 f = some M → Marks Try.prog f M := marks_cons mk_197 k_laws_markVtab
theorem gt_123 : Good Try.prog ⟨tis, fns_63, marks_123, true⟩ := g_63.trees mk_123
noncomputable def laws_markBridge (a0 : Bridge) (k1 : Int) : Option (Bridge × Int) :=
  (laws_markPtS a0.2.2.1 k1).bind fun z =>
  (laws_markFentS a0.2.2.2.1 z.2).bind fun z_1 =>
  (laws_markVtab (a0.2.2.2.2.1, a0.2.2.2.2.2.1) z_1.2).bind fun z_2 =>
  some ((a0.1, a0.2.1, z.1, z_1.1, z_2.1.1, z_2.1.2, a0.2.2.2.2.2.2.1, a0.2.2.2.2.2.2.2.1, a0.2.2.2.2.2.2.2.2.1, a0.2.2.2.2.2.2.2.2.2.1, a0.2.2.2.2.2.2.2.2.2.2), z_2.2)
noncomputable def K_laws_markBridge : MFn := ⟨true, cBridge, fun a k => laws_markBridge a k⟩
def a_laws_markBridge : List (Nat × LoopAnn) := []
theorem e_laws_markBridge : markDen ⟨tis, fns_63, marks_123, true⟩ a_laws_markBridge Try.f50 (codeOf Try.f50) true cBridge = fun a k => laws_markBridge a k := by kernel_rfl
theorem k_laws_markBridge : Marks Try.prog 50 K_laws_markBridge := by
  have h := marks_of (ann := a_laws_markBridge) (agg := true) (cs := cBridge) gt_123 mixed Try.func50 (by kernel_rfl) (by kernel_rfl : Try.f50.body = some (codeOf Try.f50))
  rw [e_laws_markBridge] at h
  exact h
noncomputable def marks_50 : List (FuncId × MFn) := (50, K_laws_markBridge) :: marks_123
theorem mk_50 : ∀ f M, find marks_50 f = some M → Marks Try.prog f M := marks_cons mk_123 k_laws_markBridge
theorem gt_50 : Good Try.prog ⟨tis, fns_63, marks_50, true⟩ := g_63.trees mk_50
noncomputable def laws_markVal (a0 : Val) (k1 : Int) : Option (Val × Int) :=
  (laws_markIntS a0.2.2.2 k1).bind fun z =>
  some ((a0.1, a0.2.1, a0.2.2.1, z.1), z.2)
noncomputable def K_laws_markVal : MFn := ⟨true, cVal, fun a k => laws_markVal a k⟩
def a_laws_markVal : List (Nat × LoopAnn) := []
theorem e_laws_markVal : markDen ⟨tis, fns_63, marks_50, true⟩ a_laws_markVal Try.f134 (codeOf Try.f134) true cVal = fun a k => laws_markVal a k := by kernel_rfl
theorem k_laws_markVal : Marks Try.prog 134 K_laws_markVal := by
  have h := marks_of (ann := a_laws_markVal) (agg := true) (cs := cVal) gt_50 mixed Try.func134 (by kernel_rfl) (by kernel_rfl : Try.f134.body = some (codeOf Try.f134))
  rw [e_laws_markVal] at h
  exact h
noncomputable def marks_134 : List (FuncId × MFn) := (134, K_laws_markVal) :: marks_50
theorem mk_134 : ∀ f M, find marks_134 f = some M → Marks Try.prog f M := marks_cons mk_50 k_laws_markVal
theorem gt_134 : Good Try.prog ⟨tis, fns_63, marks_134, true⟩ := g_63.trees mk_134
noncomputable def laws_markBind (a0 : Bind) (k1 : Int) : Option (Bind × Int) :=
  (laws_markIntS a0.1 k1).bind fun z =>
  (laws_markVal a0.2 z.2).bind fun z_1 =>
  some ((z.1, a0.2.1, a0.2.2.1, a0.2.2.2.1, z_1.1.2.2.2), z_1.2)
noncomputable def K_laws_markBind : MFn := ⟨true, cBind, fun a k => laws_markBind a k⟩
def a_laws_markBind : List (Nat × LoopAnn) := []
theorem e_laws_markBind : markDen ⟨tis, fns_63, marks_134, true⟩ a_laws_markBind Try.f62 (codeOf Try.f62) true cBind = fun a k => laws_markBind a k := by kernel_rfl
theorem k_laws_markBind : Marks Try.prog 62 K_laws_markBind := by
  have h := marks_of (ann := a_laws_markBind) (agg := true) (cs := cBind) gt_134 mixed Try.func62 (by kernel_rfl) (by kernel_rfl : Try.f62.body = some (codeOf Try.f62))
  rw [e_laws_markBind] at h
  exact h
noncomputable def marks_62 : List (FuncId × MFn) := (62, K_laws_markBind) :: marks_134
theorem mk_62 : ∀ f M, find marks_62 f = some M → Marks Try.prog f M := marks_cons mk_134 k_laws_markBind
theorem gt_62 : Good Try.prog ⟨tis, fns_63, marks_62, true⟩ := g_63.trees mk_62
noncomputable def laws_FnExactSetOne (p0 : Bridge) (i1 : Bind) : Option Bool :=
  (laws_szBridge p0 1048576).bind fun t19 =>
  cond (decide (t19 < 0))
    (some true)
    ((laws_szBind i1 t19).bind fun t24 =>
    cond (decide (t24 < 0))
      (some true)
      ((laws_toBridge p0).bind fun t29 =>
      (laws_toBind i1).bind fun t31 =>
      (spec_SetOne t29 t31).bind fun t32 =>
      (laws_toBridge p0).bind fun t36 =>
      (laws_toBind i1).bind fun t38 =>
      (impl_SetOne t36 t38).bind fun t42 =>
      (laws_eqBridge t42.1 t32.1).bind fun t47 =>
      (cond (!t47) (some true) (some (t42.2 != t32.2))).bind fun t53 =>
      cond t53
        (some false)
        ((laws_toBridge p0).bind fun t56 =>
        (laws_eqBridge t36 t56).bind fun t57 =>
        cond (!t57)
          (some false)
          ((laws_toBind i1).bind fun t61 =>
          (laws_eqBind t38 t61).bind fun t62 =>
          cond (!t62)
            (some false)
            ((laws_markBridge t36 1).bind fun z =>
            (laws_markBind t38 z.2).bind fun z_1 =>
            (cond (decide (z_1.2 < 0))
              (some true)
              ((laws_eqBridge t42.1 t32.1).bind fun t75 =>
              some (!t75))).bind fun t77 =>
            (cond t77 (some true) (some (t42.2 != t32.2))).bind fun t82 =>
            cond t82
              (some false)
              ((laws_markBridge t42.1 1).bind fun z_2 =>
              (laws_heldBridge (t42.1.1, t42.1.2.1, z_2.1.2.2.1, z_2.1.2.2.2.1, z_2.1.2.2.2.2.1, z_2.1.2.2.2.2.2.1, t42.1.2.2.2.2.2.2.1, t42.1.2.2.2.2.2.2.2.1, t42.1.2.2.2.2.2.2.2.2.1, t42.1.2.2.2.2.2.2.2.2.2.1, t42.1.2.2.2.2.2.2.2.2.2.2) 1).bind fun t88 =>
              cond (decide (t88 < 0))
                (some false)
                (cond (t88 != z_2.2)
                  (some false)
                  ((laws_toBridge p0).bind fun t96 =>
                  (laws_toBind i1).bind fun t98 =>
                  (impl_SetOne t96 t98).bind fun t99 =>
                  (laws_eqBridge t99.1 t32.1).bind fun t104 =>
                  (cond (!t104) (some true) (some (t99.2 != t32.2))).bind fun t110 =>
                  cond t110
                    (some false)
                    ((laws_heldBridge (t42.1.1, t42.1.2.1, z_2.1.2.2.1, z_2.1.2.2.2.1, z_2.1.2.2.2.2.1, z_2.1.2.2.2.2.2.1, t42.1.2.2.2.2.2.2.1, t42.1.2.2.2.2.2.2.2.1, t42.1.2.2.2.2.2.2.2.2.1, t42.1.2.2.2.2.2.2.2.2.2.1, t42.1.2.2.2.2.2.2.2.2.2.2) 1).bind fun t113 =>
                    cond (decide (t113 < 0)) (some false) (cond (t113 != z_2.2) (some false) (some true)))))))))))
noncomputable def F_laws_FnExactSetOne : Fn := ⟨[.val true cBridge false, .val true cBind false], [.val false (.one .bool) true], fun a => laws_FnExactSetOne a.1 a.2⟩
def a_laws_FnExactSetOne : List (Nat × LoopAnn) := []
theorem e_laws_FnExactSetOne : fnDen ⟨tis, fns_63, marks_62, true⟩ a_laws_FnExactSetOne Try.f11 (codeOf Try.f11) [.val true cBridge false, .val true cBind false] [.val false (.one .bool) true] = fun a => laws_FnExactSetOne a.1 a.2 := by kernel_rfl
theorem m_laws_FnExactSetOne : Meets Try.prog 11 F_laws_FnExactSetOne := by
  have h := meets_of (ann := a_laws_FnExactSetOne) (ps := [.val true cBridge false, .val true cBind false]) (rs := [.val false (.one .bool) true]) gt_62 mixed Try.func11 (by kernel_rfl) (by kernel_rfl : Try.f11.body = some (codeOf Try.f11))
  rw [e_laws_FnExactSetOne] at h
  exact h
end Go.V.W
