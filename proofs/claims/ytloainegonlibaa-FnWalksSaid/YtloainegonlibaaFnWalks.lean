/- The law FnWalks: part of the proof that for every input it returns true. No condition. -/
import Derived.Test.YtloainegonlibaaV3
import Derived.Test.YtloainegonlibaaProg
import Derived.Test.YtloainegonlibaaChecked
import Derived.KernelRfl
namespace Go.V.W
open Go.Proofs
set_option linter.unusedVariables false
@[reducible] def cL1Cur : Cs := .cons (.sl (.one (.int .u8))) (.cons (.int .i64) (.one (.int .i64)))
@[reducible] def cVrow : Cs := .cons (.int .i64) (.cons (.int .i64) (.one (.int .i64)))
@[reducible] def cVtab : Cs := .cons (.sl cVrow) (.one (.sl (.one (.int .i64))))
@[reducible] def cVec : Cs := .cons (.int .i64) (.cons (.int .i64) (.cons (.int .i64) (.cons (.int .i64) (.one (.int .i64)))))
@[reducible] def cPt : Cs := .cons .bool (.cons (.int .i64) (.cons .bool (.cons (.int .i64) (.cons (.int .i64) (.cons (.int .i64) (.cons (.int .i64) (.one (.int .i64))))))))
@[reducible] def cFent : Cs := .cons (.int .i64) (.cons (.int .i64) (.cons (.int .i64) (.cons (.int .i64) (.one .bool))))
@[reducible] def cBridge : Cs := .cons (.int .i64) (.cons .str (.cons (.sl cPt) (.cons (.sl cFent) (.cons (.sl cVrow) (.cons (.sl (.one (.int .i64))) (.cons (.int .i64) (.cons (.int .i64) (.cons (.int .i64) (.cons (.int .i64) (.one (.int .i64)))))))))))
@[reducible] def cVal : Cs := .cons (.int .i64) (.cons (.int .i64) (.cons .str (.one (.sl (.one (.int .i64))))))
@[reducible] def cBind : Cs := .cons (.sl (.one (.int .i64))) (.cons (.int .i64) (.cons (.int .i64) (.cons .str (.one (.sl (.one (.int .i64)))))))
abbrev L1Cur : Type := List Int × Int × Int
abbrev Vrow : Type := Int × Int × Int
abbrev Vtab : Type := List Vrow × List Int
abbrev Vec : Type := Int × Int × Int × Int × Int
abbrev Pt : Type := Bool × Int × Bool × Int × Int × Int × Int × Int
abbrev Fent : Type := Int × Int × Int × Int × Bool
abbrev Bridge : Type := Int × List UInt8 × List Pt × List Fent × List Vrow × List Int × Int × Int × Int × Int × Int
abbrev Val : Type := Int × Int × List UInt8 × List Int
abbrev Bind : Type := List Int × Int × Int × List UInt8 × List Int
def tis : List (Nat × TInfo) := [(2, ⟨false, .one (.int .i64), [], 0⟩),
  (3, ⟨false, .one (.int .i64), [], 0⟩),
  (4, ⟨false, .one .bool, [], 0⟩),
  (5, ⟨false, .one (.int .u8), [], 0⟩),
  (6, ⟨false, .one (.int .u8), [], 0⟩),
  (9, ⟨false, .one .str, [], 0⟩),
  (10, ⟨false, .one .str, [], 0⟩),
  (11, ⟨false, .one .str, [], 0⟩),
  (12, ⟨false, .one (.int .u64), [], 0⟩),
  (21, ⟨false, .one (.int .i32), [], 0⟩),
  (22, ⟨false, .one (.sl (.one (.int .u8))), [], 5⟩),
  (24, ⟨false, .one (.sl cPt), [], 114⟩),
  (25, ⟨false, .one (.sl cFent), [], 166⟩),
  (26, ⟨false, .one (.sl cVrow), [], 164⟩),
  (27, ⟨false, .one (.sl (.one (.int .i64))), [], 3⟩),
  (28, ⟨true, cVtab, [(26, 0), (27, 1)], 0⟩),
  (29, ⟨true, cVtab, [(26, 0), (27, 1)], 0⟩),
  (30, ⟨true, cBridge, [(3, 0), (9, 1), (24, 2), (25, 3), (29, 4), (3, 6), (3, 7), (3, 8), (3, 9), (3, 10)], 0⟩),
  (31, ⟨true, cBridge, [(3, 0), (9, 1), (24, 2), (25, 3), (29, 4), (3, 6), (3, 7), (3, 8), (3, 9), (3, 10)], 0⟩),
  (36, ⟨true, cVal, [(3, 0), (3, 1), (9, 2), (27, 3)], 0⟩),
  (37, ⟨true, cVal, [(3, 0), (3, 1), (9, 2), (27, 3)], 0⟩),
  (39, ⟨true, cBind, [(27, 0), (37, 1)], 0⟩),
  (40, ⟨true, cBind, [(27, 0), (37, 1)], 0⟩),
  (41, ⟨false, .one (.sl cBind), [], 40⟩),
  (43, ⟨false, .one (.sl (.cons (.int .i64) (.cons (.int .i64) (.cons (.int .i64) (.cons (.int .i64) (.one (.sl (.one (.int .u8))))))))), [], 49⟩),
  (46, ⟨true, .cons (.int .i64) (.cons (.int .i64) (.cons (.int .i64) (.one (.sl (.one (.int .u8)))))), [(3, 0), (3, 1), (3, 2), (22, 3)], 0⟩),
  (47, ⟨true, .cons (.int .i64) (.cons (.int .i64) (.cons (.int .i64) (.one (.sl (.one (.int .u8)))))), [(3, 0), (3, 1), (3, 2), (22, 3)], 0⟩),
  (48, ⟨true, .cons (.int .i64) (.cons (.int .i64) (.cons (.int .i64) (.cons (.int .i64) (.one (.sl (.one (.int .u8))))))), [(3, 0), (47, 1)], 0⟩),
  (49, ⟨true, .cons (.int .i64) (.cons (.int .i64) (.cons (.int .i64) (.cons (.int .i64) (.one (.sl (.one (.int .u8))))))), [(3, 0), (47, 1)], 0⟩),
  (50, ⟨false, .one (.sl cPt), [], 202⟩),
  (51, ⟨false, .one (.sl cFent), [], 204⟩),
  (52, ⟨false, .one (.sl cVrow), [], 265⟩),
  (53, ⟨true, cVtab, [(52, 0), (27, 1)], 0⟩),
  (54, ⟨true, cVtab, [(52, 0), (27, 1)], 0⟩),
  (55, ⟨true, cBridge, [(3, 0), (9, 1), (50, 2), (51, 3), (54, 4), (3, 6), (3, 7), (3, 8), (3, 9), (3, 10)], 0⟩),
  (56, ⟨true, cBridge, [(3, 0), (9, 1), (50, 2), (51, 3), (54, 4), (3, 6), (3, 7), (3, 8), (3, 9), (3, 10)], 0⟩),
  (62, ⟨false, .one (.sl (.cons (.int .i64) (.cons (.sl (.one (.int .u8))) (.cons (.int .i64) (.cons (.int .i64) (.cons (.int .i64) (.cons (.int .i64) (.cons (.int .i64) (.cons (.sl cBind) (.cons (.int .i64) (.cons .str (.cons (.sl cPt) (.cons (.sl cFent) (.cons (.sl cVrow) (.cons (.sl (.one (.int .i64))) (.cons (.int .i64) (.cons (.int .i64) (.cons (.int .i64) (.cons (.int .i64) (.cons (.int .i64) (.cons (.int .i64) (.one (.int .i64))))))))))))))))))))))), [], 222⟩),
  (63, ⟨true, .cons (.int .i64) (.cons .str (.cons (.sl cPt) (.cons (.sl cFent) (.cons (.sl cVrow) (.cons (.sl (.one (.int .i64))) (.cons (.int .i64) (.cons (.int .i64) (.cons (.int .i64) (.cons (.int .i64) (.cons (.int .i64) (.cons .str (.cons (.sl (.cons (.int .i64) (.cons (.sl (.one (.int .u8))) (.cons (.int .i64) (.cons (.int .i64) (.cons (.int .i64) (.cons (.int .i64) (.cons (.int .i64) (.cons (.sl cBind) (.cons (.int .i64) (.cons .str (.cons (.sl cPt) (.cons (.sl cFent) (.cons (.sl cVrow) (.cons (.sl (.one (.int .i64))) (.cons (.int .i64) (.cons (.int .i64) (.cons (.int .i64) (.cons (.int .i64) (.cons (.int .i64) (.cons (.int .i64) (.one (.int .i64))))))))))))))))))))))) (.cons (.int .i64) (.one (.int .i64))))))))))))))), [(56, 0), (9, 11), (62, 12), (3, 13), (3, 14)], 0⟩),
  (64, ⟨true, .cons (.int .i64) (.cons .str (.cons (.sl cPt) (.cons (.sl cFent) (.cons (.sl cVrow) (.cons (.sl (.one (.int .i64))) (.cons (.int .i64) (.cons (.int .i64) (.cons (.int .i64) (.cons (.int .i64) (.cons (.int .i64) (.cons .str (.cons (.sl (.cons (.int .i64) (.cons (.sl (.one (.int .u8))) (.cons (.int .i64) (.cons (.int .i64) (.cons (.int .i64) (.cons (.int .i64) (.cons (.int .i64) (.cons (.sl cBind) (.cons (.int .i64) (.cons .str (.cons (.sl cPt) (.cons (.sl cFent) (.cons (.sl cVrow) (.cons (.sl (.one (.int .i64))) (.cons (.int .i64) (.cons (.int .i64) (.cons (.int .i64) (.cons (.int .i64) (.cons (.int .i64) (.cons (.int .i64) (.one (.int .i64))))))))))))))))))))))) (.cons (.int .i64) (.one (.int .i64))))))))))))))), [(56, 0), (9, 11), (62, 12), (3, 13), (3, 14)], 0⟩),
  (67, ⟨false, .one (.sl (.cons (.int .i64) (.cons (.sl (.one (.int .u8))) (.cons (.int .i64) (.cons (.int .i64) (.cons (.int .i64) (.cons (.int .i64) (.cons (.int .i64) (.cons (.sl cBind) (.cons (.int .i64) (.cons .str (.cons (.sl cPt) (.cons (.sl cFent) (.cons (.sl cVrow) (.cons (.sl (.one (.int .i64))) (.cons (.int .i64) (.cons (.int .i64) (.cons (.int .i64) (.cons (.int .i64) (.cons (.int .i64) (.cons (.int .i64) (.one (.int .i64))))))))))))))))))))))), [], 226⟩),
  (68, ⟨true, .cons (.int .i64) (.cons .str (.cons (.sl cPt) (.cons (.sl cFent) (.cons (.sl cVrow) (.cons (.sl (.one (.int .i64))) (.cons (.int .i64) (.cons (.int .i64) (.cons (.int .i64) (.cons (.int .i64) (.cons (.int .i64) (.cons .str (.cons (.sl (.cons (.int .i64) (.cons (.sl (.one (.int .u8))) (.cons (.int .i64) (.cons (.int .i64) (.cons (.int .i64) (.cons (.int .i64) (.cons (.int .i64) (.cons (.sl cBind) (.cons (.int .i64) (.cons .str (.cons (.sl cPt) (.cons (.sl cFent) (.cons (.sl cVrow) (.cons (.sl (.one (.int .i64))) (.cons (.int .i64) (.cons (.int .i64) (.cons (.int .i64) (.cons (.int .i64) (.cons (.int .i64) (.cons (.int .i64) (.one (.int .i64))))))))))))))))))))))) (.cons (.int .i64) (.one (.int .i64))))))))))))))), [(31, 0), (9, 11), (67, 12), (3, 13), (3, 14)], 0⟩),
  (69, ⟨true, .cons (.int .i64) (.cons .str (.cons (.sl cPt) (.cons (.sl cFent) (.cons (.sl cVrow) (.cons (.sl (.one (.int .i64))) (.cons (.int .i64) (.cons (.int .i64) (.cons (.int .i64) (.cons (.int .i64) (.cons (.int .i64) (.cons .str (.cons (.sl (.cons (.int .i64) (.cons (.sl (.one (.int .u8))) (.cons (.int .i64) (.cons (.int .i64) (.cons (.int .i64) (.cons (.int .i64) (.cons (.int .i64) (.cons (.sl cBind) (.cons (.int .i64) (.cons .str (.cons (.sl cPt) (.cons (.sl cFent) (.cons (.sl cVrow) (.cons (.sl (.one (.int .i64))) (.cons (.int .i64) (.cons (.int .i64) (.cons (.int .i64) (.cons (.int .i64) (.cons (.int .i64) (.cons (.int .i64) (.one (.int .i64))))))))))))))))))))))) (.cons (.int .i64) (.one (.int .i64))))))))))))))), [(31, 0), (9, 11), (67, 12), (3, 13), (3, 14)], 0⟩),
  (73, ⟨false, .one (.sl cBridge), [], 31⟩),
  (74, ⟨false, .one (.sl (.cons (.int .i64) (.cons (.int .i64) (.cons (.int .i64) (.one (.int .i64)))))), [], 148⟩),
  (75, ⟨false, .one (.sl (.cons (.int .i64) (.cons .bool (.cons (.int .i64) (.cons (.int .i64) (.cons (.int .i64) (.cons (.int .i64) (.one (.int .i64))))))))), [], 234⟩),
  (76, ⟨true, .cons (.sl cBridge) (.cons (.sl (.cons (.int .i64) (.cons (.int .i64) (.cons (.int .i64) (.one (.int .i64)))))) (.one (.sl (.cons (.int .i64) (.cons .bool (.cons (.int .i64) (.cons (.int .i64) (.cons (.int .i64) (.cons (.int .i64) (.one (.int .i64))))))))))), [(73, 0), (74, 1), (75, 2)], 0⟩),
  (77, ⟨true, .cons (.sl cBridge) (.cons (.sl (.cons (.int .i64) (.cons (.int .i64) (.cons (.int .i64) (.one (.int .i64)))))) (.one (.sl (.cons (.int .i64) (.cons .bool (.cons (.int .i64) (.cons (.int .i64) (.cons (.int .i64) (.cons (.int .i64) (.one (.int .i64))))))))))), [(73, 0), (74, 1), (75, 2)], 0⟩),
  (84, ⟨true, .cons (.int .i64) (.one (.int .i64)), [(3, 0), (3, 1)], 0⟩),
  (85, ⟨true, .cons (.int .i64) (.one (.int .i64)), [(3, 0), (3, 1)], 0⟩),
  (95, ⟨false, .one (.sl cBridge), [], 56⟩),
  (96, ⟨false, .one (.sl (.cons (.int .i64) (.cons (.int .i64) (.cons (.int .i64) (.one (.int .i64)))))), [], 252⟩),
  (97, ⟨false, .one (.sl (.cons (.int .i64) (.cons .bool (.cons (.int .i64) (.cons (.int .i64) (.cons (.int .i64) (.cons (.int .i64) (.one (.int .i64))))))))), [], 255⟩),
  (98, ⟨true, .cons (.sl cBridge) (.cons (.sl (.cons (.int .i64) (.cons (.int .i64) (.cons (.int .i64) (.one (.int .i64)))))) (.one (.sl (.cons (.int .i64) (.cons .bool (.cons (.int .i64) (.cons (.int .i64) (.cons (.int .i64) (.cons (.int .i64) (.one (.int .i64))))))))))), [(95, 0), (96, 1), (97, 2)], 0⟩),
  (99, ⟨true, .cons (.sl cBridge) (.cons (.sl (.cons (.int .i64) (.cons (.int .i64) (.cons (.int .i64) (.one (.int .i64)))))) (.one (.sl (.cons (.int .i64) (.cons .bool (.cons (.int .i64) (.cons (.int .i64) (.cons (.int .i64) (.cons (.int .i64) (.one (.int .i64))))))))))), [(95, 0), (96, 1), (97, 2)], 0⟩),
  (111, ⟨true, cVec, [(3, 0), (3, 1), (3, 2), (3, 3), (3, 4)], 0⟩),
  (112, ⟨true, cVec, [(3, 0), (3, 1), (3, 2), (3, 3), (3, 4)], 0⟩),
  (113, ⟨true, cPt, [(4, 0), (3, 1), (4, 2), (112, 3)], 0⟩),
  (114, ⟨true, cPt, [(4, 0), (3, 1), (4, 2), (112, 3)], 0⟩),
  (138, ⟨false, .one (.sl (.one .str)), [], 9⟩),
  (147, ⟨true, .cons (.int .i64) (.cons (.int .i64) (.cons (.int .i64) (.one (.int .i64)))), [(3, 0), (3, 1), (3, 2), (3, 3)], 0⟩),
  (148, ⟨true, .cons (.int .i64) (.cons (.int .i64) (.cons (.int .i64) (.one (.int .i64)))), [(3, 0), (3, 1), (3, 2), (3, 3)], 0⟩),
  (163, ⟨true, cVrow, [(3, 0), (3, 1), (3, 2)], 0⟩),
  (164, ⟨true, cVrow, [(3, 0), (3, 1), (3, 2)], 0⟩),
  (165, ⟨true, cFent, [(3, 0), (3, 1), (3, 2), (3, 3), (4, 4)], 0⟩),
  (166, ⟨true, cFent, [(3, 0), (3, 1), (3, 2), (3, 3), (4, 4)], 0⟩),
  (200, ⟨true, cVec, [(3, 0), (3, 1), (3, 2), (3, 3), (3, 4)], 0⟩),
  (201, ⟨true, cPt, [(4, 0), (3, 1), (4, 2), (200, 3)], 0⟩),
  (202, ⟨true, cPt, [(4, 0), (3, 1), (4, 2), (200, 3)], 0⟩),
  (204, ⟨true, cFent, [(3, 0), (3, 1), (3, 2), (3, 3), (4, 4)], 0⟩),
  (210, ⟨false, .one .err, [], 0⟩),
  (218, ⟨false, .one (.sl cBind), [], 293⟩),
  (219, ⟨true, .cons (.int .i64) (.cons (.int .i64) (.cons (.int .i64) (.cons (.int .i64) (.one (.sl cBind))))), [(3, 0), (3, 1), (3, 2), (3, 3), (218, 4)], 0⟩),
  (220, ⟨true, .cons (.int .i64) (.cons (.int .i64) (.cons (.int .i64) (.cons (.int .i64) (.one (.sl cBind))))), [(3, 0), (3, 1), (3, 2), (3, 3), (218, 4)], 0⟩),
  (221, ⟨true, .cons (.int .i64) (.cons (.sl (.one (.int .u8))) (.cons (.int .i64) (.cons (.int .i64) (.cons (.int .i64) (.cons (.int .i64) (.cons (.int .i64) (.cons (.sl cBind) (.cons (.int .i64) (.cons .str (.cons (.sl cPt) (.cons (.sl cFent) (.cons (.sl cVrow) (.cons (.sl (.one (.int .i64))) (.cons (.int .i64) (.cons (.int .i64) (.cons (.int .i64) (.cons (.int .i64) (.cons (.int .i64) (.cons (.int .i64) (.one (.int .i64))))))))))))))))))))), [(3, 0), (22, 1), (3, 2), (220, 3), (56, 8), (3, 19), (3, 20)], 0⟩),
  (222, ⟨true, .cons (.int .i64) (.cons (.sl (.one (.int .u8))) (.cons (.int .i64) (.cons (.int .i64) (.cons (.int .i64) (.cons (.int .i64) (.cons (.int .i64) (.cons (.sl cBind) (.cons (.int .i64) (.cons .str (.cons (.sl cPt) (.cons (.sl cFent) (.cons (.sl cVrow) (.cons (.sl (.one (.int .i64))) (.cons (.int .i64) (.cons (.int .i64) (.cons (.int .i64) (.cons (.int .i64) (.cons (.int .i64) (.cons (.int .i64) (.one (.int .i64))))))))))))))))))))), [(3, 0), (22, 1), (3, 2), (220, 3), (56, 8), (3, 19), (3, 20)], 0⟩),
  (223, ⟨true, .cons (.int .i64) (.cons (.int .i64) (.cons (.int .i64) (.cons (.int .i64) (.one (.sl cBind))))), [(3, 0), (3, 1), (3, 2), (3, 3), (41, 4)], 0⟩),
  (224, ⟨true, .cons (.int .i64) (.cons (.int .i64) (.cons (.int .i64) (.cons (.int .i64) (.one (.sl cBind))))), [(3, 0), (3, 1), (3, 2), (3, 3), (41, 4)], 0⟩),
  (225, ⟨true, .cons (.int .i64) (.cons (.sl (.one (.int .u8))) (.cons (.int .i64) (.cons (.int .i64) (.cons (.int .i64) (.cons (.int .i64) (.cons (.int .i64) (.cons (.sl cBind) (.cons (.int .i64) (.cons .str (.cons (.sl cPt) (.cons (.sl cFent) (.cons (.sl cVrow) (.cons (.sl (.one (.int .i64))) (.cons (.int .i64) (.cons (.int .i64) (.cons (.int .i64) (.cons (.int .i64) (.cons (.int .i64) (.cons (.int .i64) (.one (.int .i64))))))))))))))))))))), [(3, 0), (22, 1), (3, 2), (224, 3), (31, 8), (3, 19), (3, 20)], 0⟩),
  (226, ⟨true, .cons (.int .i64) (.cons (.sl (.one (.int .u8))) (.cons (.int .i64) (.cons (.int .i64) (.cons (.int .i64) (.cons (.int .i64) (.cons (.int .i64) (.cons (.sl cBind) (.cons (.int .i64) (.cons .str (.cons (.sl cPt) (.cons (.sl cFent) (.cons (.sl cVrow) (.cons (.sl (.one (.int .i64))) (.cons (.int .i64) (.cons (.int .i64) (.cons (.int .i64) (.cons (.int .i64) (.cons (.int .i64) (.cons (.int .i64) (.one (.int .i64))))))))))))))))))))), [(3, 0), (22, 1), (3, 2), (224, 3), (31, 8), (3, 19), (3, 20)], 0⟩),
  (233, ⟨true, .cons (.int .i64) (.cons .bool (.cons (.int .i64) (.cons (.int .i64) (.cons (.int .i64) (.cons (.int .i64) (.one (.int .i64))))))), [(3, 0), (4, 1), (112, 2)], 0⟩),
  (234, ⟨true, .cons (.int .i64) (.cons .bool (.cons (.int .i64) (.cons (.int .i64) (.cons (.int .i64) (.cons (.int .i64) (.one (.int .i64))))))), [(3, 0), (4, 1), (112, 2)], 0⟩),
  (239, ⟨true, cL1Cur, [(22, 0), (3, 1), (3, 2)], 0⟩),
  (240, ⟨true, cL1Cur, [(22, 0), (3, 1), (3, 2)], 0⟩),
  (252, ⟨true, .cons (.int .i64) (.cons (.int .i64) (.cons (.int .i64) (.one (.int .i64)))), [(3, 0), (3, 1), (3, 2), (3, 3)], 0⟩),
  (254, ⟨true, .cons (.int .i64) (.cons .bool (.cons (.int .i64) (.cons (.int .i64) (.cons (.int .i64) (.cons (.int .i64) (.one (.int .i64))))))), [(3, 0), (4, 1), (200, 2)], 0⟩),
  (255, ⟨true, .cons (.int .i64) (.cons .bool (.cons (.int .i64) (.cons (.int .i64) (.cons (.int .i64) (.cons (.int .i64) (.one (.int .i64))))))), [(3, 0), (4, 1), (200, 2)], 0⟩),
  (265, ⟨true, cVrow, [(3, 0), (3, 1), (3, 2)], 0⟩),
  (273, ⟨false, .one (.sl (.one .bool)), [], 4⟩),
  (281, ⟨false, .one (.int .u64), [], 0⟩),
  (291, ⟨true, cVal, [(3, 0), (3, 1), (9, 2), (27, 3)], 0⟩),
  (292, ⟨true, cBind, [(27, 0), (291, 1)], 0⟩),
  (293, ⟨true, cBind, [(27, 0), (291, 1)], 0⟩),
  (304, ⟨false, .one (.int .u32), [], 0⟩),
  (305, ⟨false, .one (.int .u8), [], 0⟩),
  (306, ⟨false, .one (.int .u8), [], 0⟩),
  (308, ⟨false, .one (.int .i32), [], 0⟩),
  (309, ⟨false, .one (.int .i32), [], 0⟩)]
theorem tisT : Tis Try.prog tis := Tis.of_all (by kernel_rfl)
theorem tisE : Eqs Try.prog tis := Eqs.of_all (by kernel_rfl)
theorem tisD : Deep Try.prog tis := Deep.of_all (by kernel_rfl)
theorem mixed : Try.prog.follows .mixedOrders = true := by kernel_rfl
def codeOf (fn : Func) : Code := match fn.body with | some c => c | none => .skip
theorem g_0 : Good Try.prog ⟨tis, []⟩ := ⟨tisT, tisE, fun f F h => by cases h⟩
noncomputable def laws_big (code0 : List Int) : Option Bool :=
  let t2 := decide ((code0.length : Int) > 1048576)
  some t2
noncomputable def F_laws_big : Fn := ⟨[.val false (.one (.sl (.one (.int .u8)))) false], [.val false (.one .bool) true], fun a => laws_big a⟩
def a_laws_big : List (Nat × LoopAnn) := []
theorem e_laws_big : fnDen ⟨tis, []⟩ a_laws_big Try.f11 (codeOf Try.f11) [.val false (.one (.sl (.one (.int .u8)))) false] [.val false (.one .bool) true] = fun a => laws_big a := by kernel_rfl
theorem m_laws_big : Meets Try.prog 11 F_laws_big := by
  have h := meets_of (ann := a_laws_big) (ps := [.val false (.one (.sl (.one (.int .u8)))) false]) (rs := [.val false (.one .bool) true]) g_0 mixed Try.func11 (by kernel_rfl) (by kernel_rfl : Try.f11.body = some (codeOf Try.f11))
  rw [e_laws_big] at h
  exact h
noncomputable def fns_11 : List (FuncId × Fn) := (11, F_laws_big) :: []
theorem g_11 : Good Try.prog ⟨tis, fns_11⟩ := g_0.cons m_laws_big
noncomputable def spec_l1New_l0 (code0 : List Int) (h3_1 : Int) (i4 : Int) : Option ((Int × Int) ⊕ Int) :=
  (cond (decide (i4 < (code0.length : Int))) (some (decide (i4 < 4000))) (some false)).bind fun t15 =>
  cond t15
    ((at? code0 i4).bind fun x22 =>
    let h3_2 := band .i64 (w64 ((w64 ((w64 (h3_1 * 137)) + (w64 (x22)))) + 11)) 1073741823
    some (.inl (h3_2, w64 (i4 + 1))))
    (some (.inr h3_1))
noncomputable def spec_l1New (code0 : List Int) : Option L1Cur :=
  let h3 := w64 (762762 + (code0.length : Int))
  (loop (fun z => spec_l1New_l0 code0 z.1 z.2) (h3, 0)).bind fun d =>
  some (code0, 0, d)
noncomputable def F_spec_l1New : Fn := ⟨[.val false (.one (.sl (.one (.int .u8)))) false], [.ptr cL1Cur false], fun a => spec_l1New a⟩
def a_spec_l1New : List (Nat × LoopAnn) := [(0, ⟨⟨[(3, false, [.dat (.int .i64)]), (4, false, [.dat (.int .i64)]), (13, false, [.undef]), (14, false, [.undef])], []⟩,
    ⟨[(3, false, [.dat (.int .i64)])], []⟩, none⟩)]
theorem e_spec_l1New : fnDen ⟨tis, fns_11⟩ a_spec_l1New Try.f104 (codeOf Try.f104) [.val false (.one (.sl (.one (.int .u8)))) false] [.ptr cL1Cur false] = fun a => spec_l1New a := by kernel_rfl
theorem m_spec_l1New : Meets Try.prog 104 F_spec_l1New := by
  have h := meets_of (ann := a_spec_l1New) (ps := [.val false (.one (.sl (.one (.int .u8)))) false]) (rs := [.ptr cL1Cur false]) g_11 mixed Try.func104 (by kernel_rfl) (by kernel_rfl : Try.f104.body = some (codeOf Try.f104))
  rw [e_spec_l1New] at h
  exact h
noncomputable def fns_104 : List (FuncId × Fn) := (104, F_spec_l1New) :: fns_11
theorem g_104 : Good Try.prog ⟨tis, fns_104⟩ := g_11.cons m_spec_l1New
noncomputable def spec_l1Byte (c0 : L1Cur) : Option (L1Cur × Int) :=
  let x3 := band .i64 (bxor .i64 ((w64 ((w64 (c0.2.2 * 6364136223846793005)) + 1442695040888963407)).fdiv (2 ^ 33)) ((w64 ((w64 (c0.2.2 * 6364136223846793005)) + 1442695040888963407)).fdiv (2 ^ 47))) 255
  cond (decide (c0.2.1 < (c0.1.length : Int)))
    ((at? c0.1 c0.2.1).bind fun x44 =>
    let x3_1 := band .i64 (w64 (x3 + (w64 (x44)))) 255
    some ((c0.1, w64 (c0.2.1 + 1), w64 ((w64 (c0.2.2 * 6364136223846793005)) + 1442695040888963407)), x3_1))
    (some ((c0.1, c0.2.1, w64 ((w64 (c0.2.2 * 6364136223846793005)) + 1442695040888963407)), x3))
noncomputable def F_spec_l1Byte : Fn := ⟨[.ptr cL1Cur false], [.val false (.one (.int .i64)) true], fun a => spec_l1Byte a⟩
def a_spec_l1Byte : List (Nat × LoopAnn) := []
theorem e_spec_l1Byte : fnDen ⟨tis, fns_104⟩ a_spec_l1Byte Try.f217 (codeOf Try.f217) [.ptr cL1Cur false] [.val false (.one (.int .i64)) true] = fun a => spec_l1Byte a := by kernel_rfl
theorem m_spec_l1Byte : Meets Try.prog 217 F_spec_l1Byte := by
  have h := meets_of (ann := a_spec_l1Byte) (ps := [.ptr cL1Cur false]) (rs := [.val false (.one (.int .i64)) true]) g_104 mixed Try.func217 (by kernel_rfl) (by kernel_rfl : Try.f217.body = some (codeOf Try.f217))
  rw [e_spec_l1Byte] at h
  exact h
noncomputable def fns_217 : List (FuncId × Fn) := (217, F_spec_l1Byte) :: fns_104
theorem g_217 : Good Try.prog ⟨tis, fns_217⟩ := g_104.cons m_spec_l1Byte
noncomputable def spec_l1Below (c0 : L1Cur) (n1 : Int) : Option (L1Cur × Int) :=
  cond (decide (n1 ≤ 0))
    (some (c0, 0))
    (cond (decide (n1 ≤ 256))
      ((spec_l1Byte c0).bind fun t13 =>
      (rem t13.2 n1).bind fun t15 =>
      some (t13.1, t15))
      ((spec_l1Byte c0).bind fun t17 =>
      (spec_l1Byte t17.1).bind fun t19 =>
      (spec_l1Byte t19.1).bind fun t21 =>
      (rem (w64 ((w64 ((w64 (t17.2 * 65536)) + (w64 (t19.2 * 256)))) + t21.2)) n1).bind fun t30 =>
      some (t21.1, t30)))
noncomputable def F_spec_l1Below : Fn := ⟨[.ptr cL1Cur false, .val false (.one (.int .i64)) false], [.val false (.one (.int .i64)) true], fun a => spec_l1Below a.1 a.2⟩
def a_spec_l1Below : List (Nat × LoopAnn) := []
theorem e_spec_l1Below : fnDen ⟨tis, fns_217⟩ a_spec_l1Below Try.f174 (codeOf Try.f174) [.ptr cL1Cur false, .val false (.one (.int .i64)) false] [.val false (.one (.int .i64)) true] = fun a => spec_l1Below a.1 a.2 := by kernel_rfl
theorem m_spec_l1Below : Meets Try.prog 174 F_spec_l1Below := by
  have h := meets_of (ann := a_spec_l1Below) (ps := [.ptr cL1Cur false, .val false (.one (.int .i64)) false]) (rs := [.val false (.one (.int .i64)) true]) g_217 mixed Try.func174 (by kernel_rfl) (by kernel_rfl : Try.f174.body = some (codeOf Try.f174))
  rw [e_spec_l1Below] at h
  exact h
noncomputable def fns_174 : List (FuncId × Fn) := (174, F_spec_l1Below) :: fns_217
theorem g_174 : Good Try.prog ⟨tis, fns_174⟩ := g_217.cons m_spec_l1Below
noncomputable def spec_l1In (x0 : Int) (least1 : Int) (most2 : Int) : Option Bool :=
  (cond (decide (x0 ≥ least1)) (some (decide (x0 ≤ most2))) (some false)).bind fun t14 =>
  some t14
noncomputable def F_spec_l1In : Fn := ⟨[.val false (.one (.int .i64)) false, .val false (.one (.int .i64)) false, .val false (.one (.int .i64)) false], [.val false (.one .bool) true], fun a => spec_l1In a.1 a.2.1 a.2.2⟩
def a_spec_l1In : List (Nat × LoopAnn) := []
theorem e_spec_l1In : fnDen ⟨tis, fns_174⟩ a_spec_l1In Try.f144 (codeOf Try.f144) [.val false (.one (.int .i64)) false, .val false (.one (.int .i64)) false, .val false (.one (.int .i64)) false] [.val false (.one .bool) true] = fun a => spec_l1In a.1 a.2.1 a.2.2 := by kernel_rfl
theorem m_spec_l1In : Meets Try.prog 144 F_spec_l1In := by
  have h := meets_of (ann := a_spec_l1In) (ps := [.val false (.one (.int .i64)) false, .val false (.one (.int .i64)) false, .val false (.one (.int .i64)) false]) (rs := [.val false (.one .bool) true]) g_174 mixed Try.func144 (by kernel_rfl) (by kernel_rfl : Try.f144.body = some (codeOf Try.f144))
  rw [e_spec_l1In] at h
  exact h
noncomputable def fns_144 : List (FuncId × Fn) := (144, F_spec_l1In) :: fns_174
theorem g_144 : Good Try.prog ⟨tis, fns_144⟩ := g_174.cons m_spec_l1In
noncomputable def spec_VtabNew_l0 (ports0 : Int) (i5 : Int) (b1 : List Int) : Option ((Int × List Int) ⊕ (List Int)) :=
  cond (decide (i5 < ports0))
    ((app b1 ([1] : List Int)).bind fun zs27 =>
    some (.inl (w64 (i5 + 1), zs27)))
    (some (.inr b1))
noncomputable def spec_VtabNew (ports0 : Int) : Option Vtab :=
  (spec_l1In ports0 1 6).bind fun t7 =>
  cond (!t7)
    (some ([], []))
    ((shl .i64 1 (IntKind.u64.wrap (ports0))).bind fun t12 =>
    (loop (fun z => spec_VtabNew_l0 ports0 z.1 z.2) (0, [])).bind fun d =>
    some ([(1, w64 (t12 - 1), w64 (t12 - 1))], d))
noncomputable def F_spec_VtabNew : Fn := ⟨[.val false (.one (.int .i64)) false], [.val true cVtab true], fun a => spec_VtabNew a⟩
def a_spec_VtabNew : List (Nat × LoopAnn) := [(0, ⟨⟨[(5, false, [.dat (.int .i64)])], [(1054720, .box [.same 1052672, .own 1000000000]), (1000000000, .root (.one (.int .i64)) true)]⟩,
    ⟨[], [(1054720, .box [.same 1052672, .own 1000000300]), (1000000300, .root (.one (.int .i64)) true)]⟩, none⟩)]
theorem e_spec_VtabNew : fnDen ⟨tis, fns_144⟩ a_spec_VtabNew Try.f218 (codeOf Try.f218) [.val false (.one (.int .i64)) false] [.val true cVtab true] = fun a => spec_VtabNew a := by kernel_rfl
theorem m_spec_VtabNew : Meets Try.prog 218 F_spec_VtabNew := by
  have h := meets_of (ann := a_spec_VtabNew) (ps := [.val false (.one (.int .i64)) false]) (rs := [.val true cVtab true]) g_144 mixed Try.func218 (by kernel_rfl) (by kernel_rfl : Try.f218.body = some (codeOf Try.f218))
  rw [e_spec_VtabNew] at h
  exact h
noncomputable def fns_218 : List (FuncId × Fn) := (218, F_spec_VtabNew) :: fns_144
theorem g_218 : Good Try.prog ⟨tis, fns_218⟩ := g_144.cons m_spec_VtabNew
noncomputable def spec_BridgeNew_l0 (ports1 : Int) (i6 : Int) (b0 : Int) (b1 : List UInt8) (b6 : Int) (b7 : Int) (b8 : Int) (b9 : Int) (b10 : Int) (b2 : List Pt) (b3 : List Fent) : Option ((Int × Int × List UInt8 × Int × Int × Int × Int × Int × List Pt × List Fent) ⊕ (Int × List UInt8 × Int × Int × Int × Int × Int × List Pt × List Fent)) :=
  cond (decide (i6 < ports1))
    ((app b2 [(false, 1, false, 0, 0, 0, 0, 0)]).bind fun zs29 =>
    some (.inl (w64 (i6 + 1), b0, b1, b6, b7, b8, b9, b10, zs29, b3)))
    (some (.inr (b0, b1, b6, b7, b8, b9, b10, b2, b3)))
noncomputable def spec_BridgeNew (id0 : Int) (ports1 : Int) : Option Bridge :=
  (spec_l1In id0 1 99).bind fun t8 =>
  (cond (!t8)
    (some true)
    ((spec_l1In ports1 1 6).bind fun t12 =>
    some (!t12))).bind fun t14 =>
  cond t14
    (some (0, [], [], [], [], [], 0, 0, 0, 0, 0))
    ((spec_VtabNew ports1).bind fun t18 =>
    (loop (fun z => spec_BridgeNew_l0 ports1 z.1 z.2.1 z.2.2.1 z.2.2.2.1 z.2.2.2.2.1 z.2.2.2.2.2.1 z.2.2.2.2.2.2.1 z.2.2.2.2.2.2.2.1 z.2.2.2.2.2.2.2.2.1 z.2.2.2.2.2.2.2.2.2) (0, id0, [], 0, 0, 0, 0, 0, [], [])).bind fun d =>
    some (d.1, d.2.1, d.2.2.2.2.2.2.2.1, d.2.2.2.2.2.2.2.2, t18.1, t18.2, d.2.2.1, d.2.2.2.1, d.2.2.2.2.1, d.2.2.2.2.2.1, d.2.2.2.2.2.2.1))
noncomputable def F_spec_BridgeNew : Fn := ⟨[.val false (.one (.int .i64)) false, .val false (.one (.int .i64)) false], [.val true cBridge true], fun a => spec_BridgeNew a.1 a.2⟩
def a_spec_BridgeNew : List (Nat × LoopAnn) := [(0, ⟨⟨[(6, false, [.dat (.int .i64)])], [(791552, .box [.dat (.int .i64), .dat .str, .own 1000000000, .own 1000000001, .same 789504, .same 789505, .dat (.int .i64), .dat (.int .i64), .dat (.int .i64), .dat (.int .i64), .dat (.int .i64)]), (1000000000, .root cPt true), (1000000001, .root cFent true)]⟩,
    ⟨[], [(791552, .box [.dat (.int .i64), .dat .str, .own 1000000300, .own 1000000301, .same 789504, .same 789505, .dat (.int .i64), .dat (.int .i64), .dat (.int .i64), .dat (.int .i64), .dat (.int .i64)]), (1000000300, .root cPt true), (1000000301, .root cFent true)]⟩, none⟩)]
theorem e_spec_BridgeNew : fnDen ⟨tis, fns_218⟩ a_spec_BridgeNew Try.f175 (codeOf Try.f175) [.val false (.one (.int .i64)) false, .val false (.one (.int .i64)) false] [.val true cBridge true] = fun a => spec_BridgeNew a.1 a.2 := by kernel_rfl
theorem m_spec_BridgeNew : Meets Try.prog 175 F_spec_BridgeNew := by
  have h := meets_of (ann := a_spec_BridgeNew) (ps := [.val false (.one (.int .i64)) false, .val false (.one (.int .i64)) false]) (rs := [.val true cBridge true]) g_218 mixed Try.func175 (by kernel_rfl) (by kernel_rfl : Try.f175.body = some (codeOf Try.f175))
  rw [e_spec_BridgeNew] at h
  exact h
noncomputable def fns_175 : List (FuncId × Fn) := (175, F_spec_BridgeNew) :: fns_218
theorem g_175 : Good Try.prog ⟨tis, fns_175⟩ := g_218.cons m_spec_BridgeNew
noncomputable def spec_l1Str (c0 : L1Cur) (list1 : List (List UInt8)) : Option (L1Cur × List UInt8) :=
  (spec_l1Below c0 (list1.length : Int)).bind fun t9 =>
  (at? list1 t9.2).bind fun x10 =>
  some (t9.1, x10)
noncomputable def F_spec_l1Str : Fn := ⟨[.ptr cL1Cur false, .val false (.one (.sl (.one .str))) false], [.val false (.one .str) true], fun a => spec_l1Str a.1 a.2⟩
def a_spec_l1Str : List (Nat × LoopAnn) := []
theorem e_spec_l1Str : fnDen ⟨tis, fns_175⟩ a_spec_l1Str Try.f176 (codeOf Try.f176) [.ptr cL1Cur false, .val false (.one (.sl (.one .str))) false] [.val false (.one .str) true] = fun a => spec_l1Str a.1 a.2 := by kernel_rfl
theorem m_spec_l1Str : Meets Try.prog 176 F_spec_l1Str := by
  have h := meets_of (ann := a_spec_l1Str) (ps := [.ptr cL1Cur false, .val false (.one (.sl (.one .str))) false]) (rs := [.val false (.one .str) true]) g_175 mixed Try.func176 (by kernel_rfl) (by kernel_rfl : Try.f176.body = some (codeOf Try.f176))
  rw [e_spec_l1Str] at h
  exact h
noncomputable def fns_176 : List (FuncId × Fn) := (176, F_spec_l1Str) :: fns_175
theorem g_176 : Good Try.prog ⟨tis, fns_176⟩ := g_175.cons m_spec_l1Str
noncomputable def spec_l1Once (c0 : L1Cur) (n1 : Int) : Option (L1Cur × Bool) :=
  (spec_l1Below c0 n1).bind fun t7 =>
  some (t7.1, t7.2 == 0)
noncomputable def F_spec_l1Once : Fn := ⟨[.ptr cL1Cur false, .val false (.one (.int .i64)) false], [.val false (.one .bool) true], fun a => spec_l1Once a.1 a.2⟩
def a_spec_l1Once : List (Nat × LoopAnn) := []
theorem e_spec_l1Once : fnDen ⟨tis, fns_176⟩ a_spec_l1Once Try.f181 (codeOf Try.f181) [.ptr cL1Cur false, .val false (.one (.int .i64)) false] [.val false (.one .bool) true] = fun a => spec_l1Once a.1 a.2 := by kernel_rfl
theorem m_spec_l1Once : Meets Try.prog 181 F_spec_l1Once := by
  have h := meets_of (ann := a_spec_l1Once) (ps := [.ptr cL1Cur false, .val false (.one (.int .i64)) false]) (rs := [.val false (.one .bool) true]) g_176 mixed Try.func181 (by kernel_rfl) (by kernel_rfl : Try.f181.body = some (codeOf Try.f181))
  rw [e_spec_l1Once] at h
  exact h
noncomputable def fns_181 : List (FuncId × Fn) := (181, F_spec_l1Once) :: fns_176
theorem g_181 : Good Try.prog ⟨tis, fns_181⟩ := g_176.cons m_spec_l1Once
noncomputable def spec_l1Int (c0 : L1Cur) (list1 : List Int) : Option (L1Cur × Int) :=
  (spec_l1Below c0 (list1.length : Int)).bind fun t9 =>
  (at? list1 t9.2).bind fun x10 =>
  some (t9.1, x10)
noncomputable def F_spec_l1Int : Fn := ⟨[.ptr cL1Cur false, .val false (.one (.sl (.one (.int .i64)))) false], [.val false (.one (.int .i64)) true], fun a => spec_l1Int a.1 a.2⟩
def a_spec_l1Int : List (Nat × LoopAnn) := []
theorem e_spec_l1Int : fnDen ⟨tis, fns_181⟩ a_spec_l1Int Try.f183 (codeOf Try.f183) [.ptr cL1Cur false, .val false (.one (.sl (.one (.int .i64)))) false] [.val false (.one (.int .i64)) true] = fun a => spec_l1Int a.1 a.2 := by kernel_rfl
theorem m_spec_l1Int : Meets Try.prog 183 F_spec_l1Int := by
  have h := meets_of (ann := a_spec_l1Int) (ps := [.ptr cL1Cur false, .val false (.one (.sl (.one (.int .i64)))) false]) (rs := [.val false (.one (.int .i64)) true]) g_181 mixed Try.func183 (by kernel_rfl) (by kernel_rfl : Try.f183.body = some (codeOf Try.f183))
  rw [e_spec_l1Int] at h
  exact h
noncomputable def fns_183 : List (FuncId × Fn) := (183, F_spec_l1Int) :: fns_181
theorem g_183 : Good Try.prog ⟨tis, fns_183⟩ := g_181.cons m_spec_l1Int
noncomputable def spec_l7Draw (c0 : L1Cur) : Option (L1Cur × Vec) :=
  (spec_l1Below c0 5).bind fun t4 =>
  (spec_l1Int t4.1 ([0, 1, 2, 5, 10, 100] : List Int)).bind fun t8 =>
  (spec_l1Int t8.1 ([0, 1, 2, 9, 10] : List Int)).bind fun t11 =>
  (spec_l1Below t11.1 5).bind fun t13 =>
  (spec_l1Below t13.1 4).bind fun t16 =>
  some (t16.1, (w64 (1 + t4.2), t8.2, t11.2, w64 (1 + t13.2), t16.2))
noncomputable def F_spec_l7Draw : Fn := ⟨[.ptr cL1Cur false], [.val true cVec true], fun a => spec_l7Draw a⟩
def a_spec_l7Draw : List (Nat × LoopAnn) := []
theorem e_spec_l7Draw : fnDen ⟨tis, fns_183⟩ a_spec_l7Draw Try.f219 (codeOf Try.f219) [.ptr cL1Cur false] [.val true cVec true] = fun a => spec_l7Draw a := by kernel_rfl
theorem m_spec_l7Draw : Meets Try.prog 219 F_spec_l7Draw := by
  have h := meets_of (ann := a_spec_l7Draw) (ps := [.ptr cL1Cur false]) (rs := [.val true cVec true]) g_183 mixed Try.func219 (by kernel_rfl) (by kernel_rfl : Try.f219.body = some (codeOf Try.f219))
  rw [e_spec_l7Draw] at h
  exact h
noncomputable def fns_219 : List (FuncId × Fn) := (219, F_spec_l7Draw) :: fns_183
theorem g_219 : Good Try.prog ⟨tis, fns_219⟩ := g_183.cons m_spec_l7Draw
noncomputable def spec_l10Draw_l0 (n1 : Int) (i6 : Int) (b0 : List Int) (b1 : Int) (b2 : Int) (out5 : List Pt) : Option ((Int × List Int × Int × Int × List Pt) ⊕ (List Int × Int × Int × List Pt)) :=
  cond (decide (i6 < n1))
    ((spec_l1Once (b0, b1, b2) 4).bind fun t15 =>
    (spec_l1Int t15.1 ([1, 1, 2, 5, 10] : List Int)).bind fun t19 =>
    cond (!t15.2)
      ((spec_l1Once t19.1 4).bind fun t25 =>
      cond (!t25.2)
        ((spec_l7Draw t25.1).bind fun t30 =>
        (app out5 [(!t15.2, t19.2, true, t30.2.1, t30.2.2.1, t30.2.2.2.1, t30.2.2.2.2.1, t30.2.2.2.2.2)]).bind fun zs35 =>
        some (.inl (w64 (i6 + 1), t30.1.1, t30.1.2.1, t30.1.2.2, zs35)))
        ((app out5 [(!t15.2, t19.2, false, 0, 0, 0, 0, 0)]).bind fun zs35_1 =>
        some (.inl (w64 (i6 + 1), t25.1.1, t25.1.2.1, t25.1.2.2, zs35_1))))
      ((app out5 [(!t15.2, t19.2, false, 0, 0, 0, 0, 0)]).bind fun zs35_2 =>
      some (.inl (w64 (i6 + 1), t19.1.1, t19.1.2.1, t19.1.2.2, zs35_2))))
    (some (.inr (b0, b1, b2, out5)))
noncomputable def spec_l10Draw (c0 : L1Cur) (n1 : Int) : Option (L1Cur × List Pt) :=
  (loop (fun z => spec_l10Draw_l0 n1 z.1 z.2.1 z.2.2.1 z.2.2.2.1 z.2.2.2.2) (0, c0.1, c0.2.1, c0.2.2, ([] : List Pt))).bind fun d =>
  some ((d.1, d.2.1, d.2.2.1), d.2.2.2)
noncomputable def F_spec_l10Draw : Fn := ⟨[.ptr cL1Cur false, .val false (.one (.int .i64)) false], [.val false (.one (.sl cPt)) true], fun a => spec_l10Draw a.1 a.2⟩
def a_spec_l10Draw : List (Nat × LoopAnn) := [(0, ⟨⟨[(5, false, [.own 1000000000]), (6, false, [.dat (.int .i64)]), (24, false, [.undef]), (25, false, [.undef]), (26, false, [.undef])], [(1, .box [.dat (.sl (.one (.int .u8))), .dat (.int .i64), .dat (.int .i64)]), (1000000000, .root cPt true)]⟩,
    ⟨[(5, false, [.own 1000000300])], [(1, .box [.dat (.sl (.one (.int .u8))), .dat (.int .i64), .dat (.int .i64)]), (1000000300, .root cPt true)]⟩, none⟩)]
theorem e_spec_l10Draw : fnDen ⟨tis, fns_219⟩ a_spec_l10Draw Try.f177 (codeOf Try.f177) [.ptr cL1Cur false, .val false (.one (.int .i64)) false] [.val false (.one (.sl cPt)) true] = fun a => spec_l10Draw a.1 a.2 := by kernel_rfl
theorem m_spec_l10Draw : Meets Try.prog 177 F_spec_l10Draw := by
  have h := meets_of (ann := a_spec_l10Draw) (ps := [.ptr cL1Cur false, .val false (.one (.int .i64)) false]) (rs := [.val false (.one (.sl cPt)) true]) g_219 mixed Try.func177 (by kernel_rfl) (by kernel_rfl : Try.f177.body = some (codeOf Try.f177))
  rw [e_spec_l10Draw] at h
  exact h
noncomputable def fns_177 : List (FuncId × Fn) := (177, F_spec_l10Draw) :: fns_219
theorem g_177 : Good Try.prog ⟨tis, fns_177⟩ := g_219.cons m_spec_l10Draw
noncomputable def spec_RowAt_l0 (v0 : Vtab) (id1 : Int) (i5 : Int) : Option (Int ⊕ (Unit ⊕ Int)) :=
  cond (decide (i5 < (v0.1.length : Int)))
    ((at? v0.1 i5).bind fun x16 =>
    cond (x16.1 == id1) (some (.inr (.inr i5))) (some (.inl (w64 (i5 + 1)))))
    (some (.inr (.inl ())))
noncomputable def spec_RowAt (v0 : Vtab) (id1 : Int) : Option Int :=
  (loop (fun z => spec_RowAt_l0 v0 id1 z) 0).bind (Sum.elim (fun d =>
    some (-1)) (fun r => some r))
noncomputable def F_spec_RowAt : Fn := ⟨[.val true cVtab false, .val false (.one (.int .i64)) false], [.val false (.one (.int .i64)) true], fun a => spec_RowAt a.1 a.2⟩
def a_spec_RowAt : List (Nat × LoopAnn) := [(0, ⟨⟨[(5, false, [.dat (.int .i64)])], []⟩,
    ⟨[], []⟩, some ⟨[(4, false, [.dat (.int .i64)])], []⟩⟩)]
theorem e_spec_RowAt : fnDen ⟨tis, fns_177⟩ a_spec_RowAt Try.f230 (codeOf Try.f230) [.val true cVtab false, .val false (.one (.int .i64)) false] [.val false (.one (.int .i64)) true] = fun a => spec_RowAt a.1 a.2 := by kernel_rfl
theorem m_spec_RowAt : Meets Try.prog 230 F_spec_RowAt := by
  have h := meets_of (ann := a_spec_RowAt) (ps := [.val true cVtab false, .val false (.one (.int .i64)) false]) (rs := [.val false (.one (.int .i64)) true]) g_177 mixed Try.func230 (by kernel_rfl) (by kernel_rfl : Try.f230.body = some (codeOf Try.f230))
  rw [e_spec_RowAt] at h
  exact h
noncomputable def fns_230 : List (FuncId × Fn) := (230, F_spec_RowAt) :: fns_177
theorem g_230 : Good Try.prog ⟨tis, fns_230⟩ := g_177.cons m_spec_RowAt
noncomputable def spec_VtabOk_l0 (p0 : Vtab) (t27 : Int) (t6 : Int) : Option (Int ⊕ (Unit ⊕ Bool)) :=
  cond (decide (t6 < (p0.1.length : Int)))
    ((at? p0.1 t6).bind fun x39 =>
    (spec_l1In x39.1 1 99).bind fun t43 =>
    (cond (!t43)
      (some true)
      ((spec_l1In x39.2.1 0 (w64 (t27 - 1))).bind fun t49 =>
      some (!t49))).bind fun t51 =>
    (cond t51
      (some true)
      ((spec_l1In x39.2.2 0 (w64 (t27 - 1))).bind fun t56 =>
      some (!t56))).bind fun t58 =>
    (cond t58 (some true) (some ((band .i64 x39.2.2 x39.2.1) != x39.2.2))).bind fun t68 =>
    (cond t68
      (some true)
      ((cond (decide (t6 > 0))
        ((at? p0.1 (w64 (t6 - 1))).bind fun x77 =>
        some (decide (x77.1 ≥ x39.1)))
        (some false)).bind fun t83 =>
      some t83)).bind fun t84 =>
    cond t84 (some (.inr (.inr false))) (some (.inl (w64 (t6 + 1)))))
    (some (.inr (.inl ())))
noncomputable def spec_VtabOk_l2 (p0 : Vtab) (t8 : Int) : Option (Int ⊕ (Unit ⊕ Bool)) :=
  cond (decide (t8 < (p0.2.length : Int)))
    ((at? p0.2 t8).bind fun x96 =>
    (spec_RowAt p0 x96).bind fun t98 =>
    cond (decide (t98 < 0)) (some (.inr (.inr false))) (some (.inl (w64 (t8 + 1)))))
    (some (.inr (.inl ())))
noncomputable def spec_VtabOk (p0 : Vtab) (i1 : Int) : Option Bool :=
  (spec_l1In i1 1 6).bind fun t10 =>
  (cond (!t10) (some true) (some ((p0.2.length : Int) != i1))).bind fun t18 =>
  (cond t18 (some true) (some (decide ((p0.1.length : Int) > 6)))).bind fun t24 =>
  cond t24
    (some false)
    ((shl .i64 1 (IntKind.u64.wrap (i1))).bind fun t27 =>
    (loop (fun z => spec_VtabOk_l0 p0 t27 z) 0).bind (Sum.elim (fun d =>
      (loop (fun z => spec_VtabOk_l2 p0 z) 0).bind (Sum.elim (fun d_1 =>
        some true) (fun r => some r))) (fun r_1 => some r_1)))
noncomputable def F_spec_VtabOk : Fn := ⟨[.val true cVtab false, .val false (.one (.int .i64)) false], [.val false (.one .bool) true], fun a => spec_VtabOk a.1 a.2⟩
def a_spec_VtabOk : List (Nat × LoopAnn) := [(0, ⟨⟨[(6, false, [.dat (.int .i64)]), (46, false, [.undef]), (47, false, [.undef]), (48, false, [.undef]), (49, false, [.undef]), (50, false, [.undef]), (53, false, [.undef]), (54, false, [.undef]), (55, false, [.undef]), (56, false, [.undef]), (57, false, [.undef]), (60, false, [.undef]), (61, false, [.undef]), (62, false, [.undef]), (63, false, [.undef]), (64, false, [.undef]), (65, false, [.undef]), (66, false, [.undef]), (67, false, [.undef]), (70, false, [.undef]), (71, false, [.undef]), (72, false, [.undef]), (73, false, [.undef]), (74, false, [.undef]), (75, false, [.undef]), (76, false, [.undef]), (77, false, [.undef]), (78, false, [.undef]), (79, false, [.undef]), (80, false, [.undef]), (81, false, [.undef]), (82, false, [.undef]), (83, false, [.undef])], []⟩,
    ⟨[], []⟩, some ⟨[(4, false, [.dat .bool])], []⟩⟩),
  (2, ⟨⟨[(8, false, [.dat (.int .i64)])], []⟩,
    ⟨[], []⟩, some ⟨[(4, false, [.dat .bool])], []⟩⟩)]
theorem e_spec_VtabOk : fnDen ⟨tis, fns_230⟩ a_spec_VtabOk Try.f194 (codeOf Try.f194) [.val true cVtab false, .val false (.one (.int .i64)) false] [.val false (.one .bool) true] = fun a => spec_VtabOk a.1 a.2 := by kernel_rfl
theorem m_spec_VtabOk : Meets Try.prog 194 F_spec_VtabOk := by
  have h := meets_of (ann := a_spec_VtabOk) (ps := [.val true cVtab false, .val false (.one (.int .i64)) false]) (rs := [.val false (.one .bool) true]) g_230 mixed Try.func194 (by kernel_rfl) (by kernel_rfl : Try.f194.body = some (codeOf Try.f194))
  rw [e_spec_VtabOk] at h
  exact h
noncomputable def fns_194 : List (FuncId × Fn) := (194, F_spec_VtabOk) :: fns_230
theorem g_194 : Good Try.prog ⟨tis, fns_194⟩ := g_230.cons m_spec_VtabOk
noncomputable def spec_l9Copy (v0 : Vtab) : Option Vtab :=
  (app ([] : List Vrow) v0.1).bind fun zs6 =>
  (app ([] : List Int) v0.2).bind fun zs10 =>
  some (zs6, zs10)
noncomputable def F_spec_l9Copy : Fn := ⟨[.val true cVtab false], [.val true cVtab true], fun a => spec_l9Copy a⟩
def a_spec_l9Copy : List (Nat × LoopAnn) := []
theorem e_spec_l9Copy : fnDen ⟨tis, fns_194⟩ a_spec_l9Copy Try.f238 (codeOf Try.f238) [.val true cVtab false] [.val true cVtab true] = fun a => spec_l9Copy a := by kernel_rfl
theorem m_spec_l9Copy : Meets Try.prog 238 F_spec_l9Copy := by
  have h := meets_of (ann := a_spec_l9Copy) (ps := [.val true cVtab false]) (rs := [.val true cVtab true]) g_194 mixed Try.func238 (by kernel_rfl) (by kernel_rfl : Try.f238.body = some (codeOf Try.f238))
  rw [e_spec_l9Copy] at h
  exact h
noncomputable def fns_238 : List (FuncId × Fn) := (238, F_spec_l9Copy) :: fns_194
theorem g_238 : Good Try.prog ⟨tis, fns_238⟩ := g_194.cons m_spec_l9Copy
noncomputable def spec_l9Or (x0 : Vtab) (v1 : Vtab) : Option (Vtab × Bool) :=
  (spec_VtabOk x0 (v1.2.length : Int)).bind fun t10 =>
  cond (!t10)
    ((spec_l9Copy v1).bind fun t13 =>
    some (t13, false))
    (some (x0, true))
noncomputable def F_spec_l9Or : Fn := ⟨[.val true cVtab true, .val true cVtab false], [.val true cVtab true, .val false (.one .bool) true], fun a => spec_l9Or a.1 a.2⟩
def a_spec_l9Or : List (Nat × LoopAnn) := []
theorem e_spec_l9Or : fnDen ⟨tis, fns_238⟩ a_spec_l9Or Try.f239 (codeOf Try.f239) [.val true cVtab true, .val true cVtab false] [.val true cVtab true, .val false (.one .bool) true] = fun a => spec_l9Or a.1 a.2 := by kernel_rfl
theorem m_spec_l9Or : Meets Try.prog 239 F_spec_l9Or := by
  have h := meets_of (ann := a_spec_l9Or) (ps := [.val true cVtab true, .val true cVtab false]) (rs := [.val true cVtab true, .val false (.one .bool) true]) g_238 mixed Try.func239 (by kernel_rfl) (by kernel_rfl : Try.f239.body = some (codeOf Try.f239))
  rw [e_spec_l9Or] at h
  exact h
noncomputable def fns_239 : List (FuncId × Fn) := (239, F_spec_l9Or) :: fns_238
theorem g_239 : Good Try.prog ⟨tis, fns_239⟩ := g_238.cons m_spec_l9Or
noncomputable def spec_SetPvid (v0 : Vtab) (port1 : Int) (id2 : Int) : Option (Vtab × Bool) :=
  (spec_VtabOk v0 (v0.2.length : Int)).bind fun t13 =>
  (cond (!t13)
    (some true)
    ((spec_l1In port1 0 (w64 ((v0.2.length : Int) - 1))).bind fun t21 =>
    some (!t21))).bind fun t23 =>
  cond t23
    ((spec_l9Copy v0).bind fun t25 =>
    some (t25, false))
    ((spec_l9Copy v0).bind fun t27 =>
    (ix t27.2.length port1).bind fun j32 =>
    (t27.2[j32]?).bind fun x =>
    (spec_l9Or (t27.1, t27.2.set j32 id2) v0).bind fun t35 =>
    some t35)
noncomputable def F_spec_SetPvid : Fn := ⟨[.val true cVtab false, .val false (.one (.int .i64)) false, .val false (.one (.int .i64)) false], [.val true cVtab true, .val false (.one .bool) true], fun a => spec_SetPvid a.1 a.2.1 a.2.2⟩
def a_spec_SetPvid : List (Nat × LoopAnn) := []
theorem e_spec_SetPvid : fnDen ⟨tis, fns_239⟩ a_spec_SetPvid Try.f220 (codeOf Try.f220) [.val true cVtab false, .val false (.one (.int .i64)) false, .val false (.one (.int .i64)) false] [.val true cVtab true, .val false (.one .bool) true] = fun a => spec_SetPvid a.1 a.2.1 a.2.2 := by kernel_rfl
theorem m_spec_SetPvid : Meets Try.prog 220 F_spec_SetPvid := by
  have h := meets_of (ann := a_spec_SetPvid) (ps := [.val true cVtab false, .val false (.one (.int .i64)) false, .val false (.one (.int .i64)) false]) (rs := [.val true cVtab true, .val false (.one .bool) true]) g_239 mixed Try.func220 (by kernel_rfl) (by kernel_rfl : Try.f220.body = some (codeOf Try.f220))
  rw [e_spec_SetPvid] at h
  exact h
noncomputable def fns_220 : List (FuncId × Fn) := (220, F_spec_SetPvid) :: fns_239
theorem g_220 : Good Try.prog ⟨tis, fns_220⟩ := g_239.cons m_spec_SetPvid
noncomputable def spec_DropRow (v0 : Vtab) (id1 : Int) : Option (Vtab × Bool) :=
  (spec_RowAt v0 id1).bind fun t10 =>
  (spec_VtabOk v0 (v0.2.length : Int)).bind fun t15 =>
  (cond (!t15) (some true) (some (decide (t10 < 0)))).bind fun t20 =>
  cond t20
    ((spec_l9Copy v0).bind fun t22 =>
    some (t22, false))
    ((spec_l9Copy v0).bind fun t24 =>
    (cut v0.1 0 t10).bind fun t29 =>
    (app ([] : List Vrow) t29).bind fun zs30 =>
    (cut v0.1 (w64 (t10 + 1)) (v0.1.length : Int)).bind fun t35 =>
    (app zs30 t35).bind fun zs36 =>
    (spec_l9Or (zs36, t24.2) v0).bind fun t40 =>
    some t40)
noncomputable def F_spec_DropRow : Fn := ⟨[.val true cVtab false, .val false (.one (.int .i64)) false], [.val true cVtab true, .val false (.one .bool) true], fun a => spec_DropRow a.1 a.2⟩
def a_spec_DropRow : List (Nat × LoopAnn) := []
theorem e_spec_DropRow : fnDen ⟨tis, fns_220⟩ a_spec_DropRow Try.f221 (codeOf Try.f221) [.val true cVtab false, .val false (.one (.int .i64)) false] [.val true cVtab true, .val false (.one .bool) true] = fun a => spec_DropRow a.1 a.2 := by kernel_rfl
theorem m_spec_DropRow : Meets Try.prog 221 F_spec_DropRow := by
  have h := meets_of (ann := a_spec_DropRow) (ps := [.val true cVtab false, .val false (.one (.int .i64)) false]) (rs := [.val true cVtab true, .val false (.one .bool) true]) g_220 mixed Try.func221 (by kernel_rfl) (by kernel_rfl : Try.f221.body = some (codeOf Try.f221))
  rw [e_spec_DropRow] at h
  exact h
noncomputable def fns_221 : List (FuncId × Fn) := (221, F_spec_DropRow) :: fns_220
theorem g_221 : Good Try.prog ⟨tis, fns_221⟩ := g_220.cons m_spec_DropRow
noncomputable def spec_l9Row_l0 (p0 : Vtab) (i1 : Vrow) (t6 : Bool) (t7 : Int) (b0 : List Vrow) : Option ((Bool × Int × List Vrow) ⊕ (Bool × List Vrow)) :=
  cond (decide (t7 < (p0.1.length : Int)))
    ((cond (!t6)
      ((at? p0.1 t7).bind fun x26 =>
      some (decide (x26.1 ≥ i1.1)))
      (some false)).bind fun t32 =>
    cond t32
      ((app b0 [i1]).bind fun zs37 =>
      (at? p0.1 t7).bind fun x42 =>
      cond (x42.1 != i1.1)
        ((at? p0.1 t7).bind fun x53 =>
        (app zs37 [x53]).bind fun zs56 =>
        some (.inl (true, w64 (t7 + 1), zs56)))
        (some (.inl (true, w64 (t7 + 1), zs37))))
      ((at? p0.1 t7).bind fun x42_1 =>
      cond (x42_1.1 != i1.1)
        ((at? p0.1 t7).bind fun x53_1 =>
        (app b0 [x53_1]).bind fun zs56_1 =>
        some (.inl (t6, w64 (t7 + 1), zs56_1)))
        (some (.inl (t6, w64 (t7 + 1), b0)))))
    (some (.inr (t6, b0)))
noncomputable def spec_l9Row (p0 : Vtab) (i1 : Vrow) : Option Vtab :=
  (app ([] : List Int) p0.2).bind fun zs11 =>
  (loop (fun z => spec_l9Row_l0 p0 i1 z.1 z.2.1 z.2.2) (false, 0, [])).bind fun d =>
  cond (!d.1)
    ((app d.2 [i1]).bind fun zs64 =>
    some (zs64, zs11))
    (some (d.2, zs11))
noncomputable def F_spec_l9Row : Fn := ⟨[.val true cVtab false, .val true cVrow false], [.val true cVtab true], fun a => spec_l9Row a.1 a.2⟩
def a_spec_l9Row : List (Nat × LoopAnn) := [(0, ⟨⟨[(6, false, [.dat .bool]), (7, false, [.dat (.int .i64)]), (23, false, [.undef]), (24, false, [.undef]), (25, false, [.undef]), (26, false, [.undef]), (27, false, [.undef]), (28, false, [.undef]), (29, false, [.undef]), (30, false, [.undef]), (31, false, [.undef])], [(268288, .box [.own 1000000000, .same 266240]), (1000000000, .root cVrow true)]⟩,
    ⟨[(6, false, [.dat .bool])], [(268288, .box [.own 1000000300, .same 266240]), (1000000300, .root cVrow true)]⟩, none⟩)]
theorem e_spec_l9Row : fnDen ⟨tis, fns_221⟩ a_spec_l9Row Try.f240 (codeOf Try.f240) [.val true cVtab false, .val true cVrow false] [.val true cVtab true] = fun a => spec_l9Row a.1 a.2 := by kernel_rfl
theorem m_spec_l9Row : Meets Try.prog 240 F_spec_l9Row := by
  have h := meets_of (ann := a_spec_l9Row) (ps := [.val true cVtab false, .val true cVrow false]) (rs := [.val true cVtab true]) g_221 mixed Try.func240 (by kernel_rfl) (by kernel_rfl : Try.f240.body = some (codeOf Try.f240))
  rw [e_spec_l9Row] at h
  exact h
noncomputable def fns_240 : List (FuncId × Fn) := (240, F_spec_l9Row) :: fns_221
theorem g_240 : Good Try.prog ⟨tis, fns_240⟩ := g_221.cons m_spec_l9Row
noncomputable def spec_PutRow (v0 : Vtab) (r1 : Vrow) : Option (Vtab × Bool) :=
  (spec_VtabOk v0 (v0.2.length : Int)).bind fun t10 =>
  cond (!t10)
    ((spec_l9Copy v0).bind fun t13 =>
    some (t13, false))
    ((spec_l9Row v0 r1).bind fun t16 =>
    (spec_l9Or t16 v0).bind fun t18 =>
    some t18)
noncomputable def F_spec_PutRow : Fn := ⟨[.val true cVtab false, .val true cVrow false], [.val true cVtab true, .val false (.one .bool) true], fun a => spec_PutRow a.1 a.2⟩
def a_spec_PutRow : List (Nat × LoopAnn) := []
theorem e_spec_PutRow : fnDen ⟨tis, fns_240⟩ a_spec_PutRow Try.f222 (codeOf Try.f222) [.val true cVtab false, .val true cVrow false] [.val true cVtab true, .val false (.one .bool) true] = fun a => spec_PutRow a.1 a.2 := by kernel_rfl
theorem m_spec_PutRow : Meets Try.prog 222 F_spec_PutRow := by
  have h := meets_of (ann := a_spec_PutRow) (ps := [.val true cVtab false, .val true cVrow false]) (rs := [.val true cVtab true, .val false (.one .bool) true]) g_240 mixed Try.func222 (by kernel_rfl) (by kernel_rfl : Try.f222.body = some (codeOf Try.f222))
  rw [e_spec_PutRow] at h
  exact h
noncomputable def fns_222 : List (FuncId × Fn) := (222, F_spec_PutRow) :: fns_240
theorem g_222 : Good Try.prog ⟨tis, fns_222⟩ := g_240.cons m_spec_PutRow
noncomputable def spec_l9Row2 (c0 : L1Cur) (ports1 : Int) : Option (L1Cur × Vrow) :=
  (shl .i64 1 (IntKind.u64.wrap (ports1))).bind fun t9 =>
  (spec_l1Below c0 (w64 ((w64 (t9 - 1)) + 1))).bind fun t14 =>
  (spec_l1Int t14.1 ([1, 2, 3, 2] : List Int)).bind fun t17 =>
  (spec_l1Below t17.1 (w64 ((w64 (t9 - 1)) + 1))).bind fun t23 =>
  some (t23.1, (t17.2, t14.2, band .i64 t14.2 t23.2))
noncomputable def F_spec_l9Row2 : Fn := ⟨[.ptr cL1Cur false, .val false (.one (.int .i64)) false], [.val true cVrow true], fun a => spec_l9Row2 a.1 a.2⟩
def a_spec_l9Row2 : List (Nat × LoopAnn) := []
theorem e_spec_l9Row2 : fnDen ⟨tis, fns_222⟩ a_spec_l9Row2 Try.f223 (codeOf Try.f223) [.ptr cL1Cur false, .val false (.one (.int .i64)) false] [.val true cVrow true] = fun a => spec_l9Row2 a.1 a.2 := by kernel_rfl
theorem m_spec_l9Row2 : Meets Try.prog 223 F_spec_l9Row2 := by
  have h := meets_of (ann := a_spec_l9Row2) (ps := [.ptr cL1Cur false, .val false (.one (.int .i64)) false]) (rs := [.val true cVrow true]) g_222 mixed Try.func223 (by kernel_rfl) (by kernel_rfl : Try.f223.body = some (codeOf Try.f223))
  rw [e_spec_l9Row2] at h
  exact h
noncomputable def fns_223 : List (FuncId × Fn) := (223, F_spec_l9Row2) :: fns_222
theorem g_223 : Good Try.prog ⟨tis, fns_223⟩ := g_222.cons m_spec_l9Row2
noncomputable def spec_l9Draw_l0 (ports1 : Int) (i6 : Int) (b0 : List Int) (b1 : Int) (b2 : Int) (b0_1 : List Vrow) (b1_1 : List Int) : Option ((Int × List Int × Int × Int × List Vrow × List Int) ⊕ (List Int × Int × Int × List Vrow × List Int)) :=
  cond (decide (i6 > 0))
    ((spec_l1Below (b0, b1, b2) 4).bind fun t16 =>
    cond (t16.2 == 0)
      ((spec_l1Below t16.1 ports1).bind fun t31 =>
      (spec_l1Below t31.1 3).bind fun t33 =>
      (spec_SetPvid (b0_1, b1_1) t31.2 (w64 (1 + t33.2))).bind fun t35 =>
      some (.inl (w64 (i6 - 1), t33.1.1, t33.1.2.1, t33.1.2.2, t35.1.1, t35.1.2)))
      (cond (t16.2 == 1)
        ((spec_l1Below t16.1 2).bind fun t43 =>
        (spec_DropRow (b0_1, b1_1) (w64 (2 + t43.2))).bind fun t45 =>
        some (.inl (w64 (i6 - 1), t43.1.1, t43.1.2.1, t43.1.2.2, t45.1.1, t45.1.2)))
        ((spec_l9Row2 t16.1 ports1).bind fun t21 =>
        (spec_PutRow (b0_1, b1_1) t21.2).bind fun t22 =>
        some (.inl (w64 (i6 - 1), t21.1.1, t21.1.2.1, t21.1.2.2, t22.1.1, t22.1.2)))))
    (some (.inr (b0, b1, b2, b0_1, b1_1)))
noncomputable def spec_l9Draw (c0 : L1Cur) (ports1 : Int) : Option (L1Cur × Vtab) :=
  (spec_VtabNew ports1).bind fun t8 =>
  (spec_l1Below c0 6).bind fun t10 =>
  (loop (fun z => spec_l9Draw_l0 ports1 z.1 z.2.1 z.2.2.1 z.2.2.2.1 z.2.2.2.2.1 z.2.2.2.2.2) (t10.2, t10.1.1, t10.1.2.1, t10.1.2.2, t8.1, t8.2)).bind fun d =>
  some ((d.1, d.2.1, d.2.2.1), d.2.2.2)
noncomputable def F_spec_l9Draw : Fn := ⟨[.ptr cL1Cur false, .val false (.one (.int .i64)) false], [.val true cVtab true], fun a => spec_l9Draw a.1 a.2⟩
def a_spec_l9Draw : List (Nat × LoopAnn) := [(0, ⟨⟨[(6, false, [.dat (.int .i64)])], [(1, .box [.dat (.sl (.one (.int .u8))), .dat (.int .i64), .dat (.int .i64)]), (265216, .box [.own 1000000000, .own 1000000001]), (1000000000, .root cVrow true), (1000000001, .root (.one (.int .i64)) true)]⟩,
    ⟨[], [(1, .box [.dat (.sl (.one (.int .u8))), .dat (.int .i64), .dat (.int .i64)]), (265216, .box [.own 1000000300, .own 1000000301]), (1000000300, .root cVrow true), (1000000301, .root (.one (.int .i64)) true)]⟩, none⟩)]
theorem e_spec_l9Draw : fnDen ⟨tis, fns_223⟩ a_spec_l9Draw Try.f178 (codeOf Try.f178) [.ptr cL1Cur false, .val false (.one (.int .i64)) false] [.val true cVtab true] = fun a => spec_l9Draw a.1 a.2 := by kernel_rfl
theorem m_spec_l9Draw : Meets Try.prog 178 F_spec_l9Draw := by
  have h := meets_of (ann := a_spec_l9Draw) (ps := [.ptr cL1Cur false, .val false (.one (.int .i64)) false]) (rs := [.val true cVtab true]) g_223 mixed Try.func178 (by kernel_rfl) (by kernel_rfl : Try.f178.body = some (codeOf Try.f178))
  rw [e_spec_l9Draw] at h
  exact h
noncomputable def fns_178 : List (FuncId × Fn) := (178, F_spec_l9Draw) :: fns_223
theorem g_178 : Good Try.prog ⟨tis, fns_178⟩ := g_223.cons m_spec_l9Draw
noncomputable def spec_l8Ent (e0 : Fent) : Option Bool :=
  (spec_l1In e0.1 1 99).bind fun t5 =>
  (cond t5
    ((spec_l1In e0.2.1 1 9999).bind fun t9 =>
    some t9)
    (some false)).bind fun t10 =>
  (cond t10
    ((spec_l1In e0.2.2.1 0 7).bind fun t14 =>
    some t14)
    (some false)).bind fun t15 =>
  (cond t15
    ((spec_l1In e0.2.2.2.1 0 4).bind fun t19 =>
    some t19)
    (some false)).bind fun t20 =>
  (cond t20
    ((cond (!e0.2.2.2.2) (some true) (some (e0.2.2.2.1 == 0))).bind fun t29 =>
    some t29)
    (some false)).bind fun t30 =>
  some t30
noncomputable def F_spec_l8Ent : Fn := ⟨[.val true cFent false], [.val false (.one .bool) true], fun a => spec_l8Ent a⟩
def a_spec_l8Ent : List (Nat × LoopAnn) := []
theorem e_spec_l8Ent : fnDen ⟨tis, fns_178⟩ a_spec_l8Ent Try.f225 (codeOf Try.f225) [.val true cFent false] [.val false (.one .bool) true] = fun a => spec_l8Ent a := by kernel_rfl
theorem m_spec_l8Ent : Meets Try.prog 225 F_spec_l8Ent := by
  have h := meets_of (ann := a_spec_l8Ent) (ps := [.val true cFent false]) (rs := [.val false (.one .bool) true]) g_178 mixed Try.func225 (by kernel_rfl) (by kernel_rfl : Try.f225.body = some (codeOf Try.f225))
  rw [e_spec_l8Ent] at h
  exact h
noncomputable def fns_225 : List (FuncId × Fn) := (225, F_spec_l8Ent) :: fns_178
theorem g_225 : Good Try.prog ⟨tis, fns_225⟩ := g_178.cons m_spec_l8Ent
noncomputable def spec_l8Ahead (e0 : Fent) (tag1 : Int) (mac2 : Int) : Option Bool :=
  cond (e0.1 != tag1) (some (decide (e0.1 < tag1))) (some (decide (e0.2.1 < mac2)))
noncomputable def F_spec_l8Ahead : Fn := ⟨[.val true cFent false, .val false (.one (.int .i64)) false, .val false (.one (.int .i64)) false], [.val false (.one .bool) true], fun a => spec_l8Ahead a.1 a.2.1 a.2.2⟩
def a_spec_l8Ahead : List (Nat × LoopAnn) := []
theorem e_spec_l8Ahead : fnDen ⟨tis, fns_225⟩ a_spec_l8Ahead Try.f229 (codeOf Try.f229) [.val true cFent false, .val false (.one (.int .i64)) false, .val false (.one (.int .i64)) false] [.val false (.one .bool) true] = fun a => spec_l8Ahead a.1 a.2.1 a.2.2 := by kernel_rfl
theorem m_spec_l8Ahead : Meets Try.prog 229 F_spec_l8Ahead := by
  have h := meets_of (ann := a_spec_l8Ahead) (ps := [.val true cFent false, .val false (.one (.int .i64)) false, .val false (.one (.int .i64)) false]) (rs := [.val false (.one .bool) true]) g_225 mixed Try.func229 (by kernel_rfl) (by kernel_rfl : Try.f229.body = some (codeOf Try.f229))
  rw [e_spec_l8Ahead] at h
  exact h
noncomputable def fns_229 : List (FuncId × Fn) := (229, F_spec_l8Ahead) :: fns_225
theorem g_229 : Good Try.prog ⟨tis, fns_229⟩ := g_225.cons m_spec_l8Ahead
noncomputable def spec_FdbOk_l0 (l0 : List Fent) (i3 : Int) : Option (Int ⊕ (Unit ⊕ Bool)) :=
  cond (decide (i3 < (l0.length : Int)))
    ((at? l0 i3).bind fun x12 =>
    (spec_l8Ent x12).bind fun t14 =>
    (cond (!t14)
      (some true)
      ((cond (decide (i3 > 0))
        ((at? l0 (w64 (i3 - 1))).bind fun x23 =>
        (at? l0 i3).bind fun x27 =>
        (at? l0 i3).bind fun x32 =>
        (spec_l8Ahead x23 x27.1 x32.2.1).bind fun t35 =>
        some (!t35))
        (some false)).bind fun t37 =>
      some t37)).bind fun t38 =>
    cond t38 (some (.inr (.inr false))) (some (.inl (w64 (i3 + 1)))))
    (some (.inr (.inl ())))
noncomputable def spec_FdbOk (l0 : List Fent) : Option Bool :=
  (loop (fun z => spec_FdbOk_l0 l0 z) 0).bind (Sum.elim (fun d =>
    let t2 := decide ((l0.length : Int) ≤ 12)
    some t2) (fun r => some r))
noncomputable def F_spec_FdbOk : Fn := ⟨[.val false (.one (.sl cFent)) false], [.val false (.one .bool) true], fun a => spec_FdbOk a⟩
def a_spec_FdbOk : List (Nat × LoopAnn) := [(0, ⟨⟨[(3, false, [.dat (.int .i64)]), (17, false, [.undef]), (18, false, [.undef]), (19, false, [.undef]), (20, false, [.undef]), (21, false, [.undef]), (22, false, [.undef]), (23, false, [.undef]), (24, false, [.undef]), (25, false, [.undef]), (26, false, [.undef]), (27, false, [.undef]), (28, false, [.undef]), (29, false, [.undef]), (30, false, [.undef]), (31, false, [.undef]), (32, false, [.undef]), (33, false, [.undef]), (34, false, [.undef]), (35, false, [.undef]), (36, false, [.undef]), (37, false, [.undef])], []⟩,
    ⟨[], []⟩, some ⟨[(2, false, [.dat .bool])], []⟩⟩)]
theorem e_spec_FdbOk : fnDen ⟨tis, fns_229⟩ a_spec_FdbOk Try.f193 (codeOf Try.f193) [.val false (.one (.sl cFent)) false] [.val false (.one .bool) true] = fun a => spec_FdbOk a := by kernel_rfl
theorem m_spec_FdbOk : Meets Try.prog 193 F_spec_FdbOk := by
  have h := meets_of (ann := a_spec_FdbOk) (ps := [.val false (.one (.sl cFent)) false]) (rs := [.val false (.one .bool) true]) g_229 mixed Try.func193 (by kernel_rfl) (by kernel_rfl : Try.f193.body = some (codeOf Try.f193))
  rw [e_spec_FdbOk] at h
  exact h
noncomputable def fns_193 : List (FuncId × Fn) := (193, F_spec_FdbOk) :: fns_229
theorem g_193 : Good Try.prog ⟨tis, fns_193⟩ := g_229.cons m_spec_FdbOk
noncomputable def spec_l8At_l0 (l0 : List Fent) (tag1 : Int) (mac2 : Int) (i7 : Int) : Option (Int ⊕ (Unit ⊕ Int)) :=
  cond (decide (i7 < (l0.length : Int)))
    ((at? l0 i7).bind fun x16 =>
    (cond (x16.1 == tag1)
      ((at? l0 i7).bind fun x24 =>
      some (x24.2.1 == mac2))
      (some false)).bind fun t29 =>
    cond t29 (some (.inr (.inr i7))) (some (.inl (w64 (i7 + 1)))))
    (some (.inr (.inl ())))
noncomputable def spec_l8At (l0 : List Fent) (tag1 : Int) (mac2 : Int) : Option Int :=
  (loop (fun z => spec_l8At_l0 l0 tag1 mac2 z) 0).bind (Sum.elim (fun d =>
    some (-1)) (fun r => some r))
noncomputable def F_spec_l8At : Fn := ⟨[.val false (.one (.sl cFent)) false, .val false (.one (.int .i64)) false, .val false (.one (.int .i64)) false], [.val false (.one (.int .i64)) true], fun a => spec_l8At a.1 a.2.1 a.2.2⟩
def a_spec_l8At : List (Nat × LoopAnn) := [(0, ⟨⟨[(7, false, [.dat (.int .i64)]), (22, false, [.undef]), (23, false, [.undef]), (24, false, [.undef]), (25, false, [.undef]), (26, false, [.undef]), (27, false, [.undef]), (28, false, [.undef])], []⟩,
    ⟨[], []⟩, some ⟨[(6, false, [.dat (.int .i64)])], []⟩⟩)]
theorem e_spec_l8At : fnDen ⟨tis, fns_193⟩ a_spec_l8At Try.f224 (codeOf Try.f224) [.val false (.one (.sl cFent)) false, .val false (.one (.int .i64)) false, .val false (.one (.int .i64)) false] [.val false (.one (.int .i64)) true] = fun a => spec_l8At a.1 a.2.1 a.2.2 := by kernel_rfl
theorem m_spec_l8At : Meets Try.prog 224 F_spec_l8At := by
  have h := meets_of (ann := a_spec_l8At) (ps := [.val false (.one (.sl cFent)) false, .val false (.one (.int .i64)) false, .val false (.one (.int .i64)) false]) (rs := [.val false (.one (.int .i64)) true]) g_193 mixed Try.func224 (by kernel_rfl) (by kernel_rfl : Try.f224.body = some (codeOf Try.f224))
  rw [e_spec_l8At] at h
  exact h
noncomputable def fns_224 : List (FuncId × Fn) := (224, F_spec_l8At) :: fns_193
theorem g_224 : Good Try.prog ⟨tis, fns_224⟩ := g_193.cons m_spec_l8At
noncomputable def spec_l8Copy (l0 : List Fent) : Option (List Fent) :=
  (app ([] : List Fent) l0).bind fun zs5 =>
  some zs5
noncomputable def F_spec_l8Copy : Fn := ⟨[.val false (.one (.sl cFent)) false], [.val false (.one (.sl cFent)) true], fun a => spec_l8Copy a⟩
def a_spec_l8Copy : List (Nat × LoopAnn) := []
theorem e_spec_l8Copy : fnDen ⟨tis, fns_224⟩ a_spec_l8Copy Try.f226 (codeOf Try.f226) [.val false (.one (.sl cFent)) false] [.val false (.one (.sl cFent)) true] = fun a => spec_l8Copy a := by kernel_rfl
theorem m_spec_l8Copy : Meets Try.prog 226 F_spec_l8Copy := by
  have h := meets_of (ann := a_spec_l8Copy) (ps := [.val false (.one (.sl cFent)) false]) (rs := [.val false (.one (.sl cFent)) true]) g_224 mixed Try.func226 (by kernel_rfl) (by kernel_rfl : Try.f226.body = some (codeOf Try.f226))
  rw [e_spec_l8Copy] at h
  exact h
noncomputable def fns_226 : List (FuncId × Fn) := (226, F_spec_l8Copy) :: fns_224
theorem g_226 : Good Try.prog ⟨tis, fns_226⟩ := g_224.cons m_spec_l8Copy
noncomputable def spec_l8Put_l0 (p0 : List Fent) (i1 : Fent) (t6 : Bool) (t7 : Int) (t5 : List Fent) : Option ((Bool × Int × List Fent) ⊕ (Bool × List Fent)) :=
  cond (decide (t7 < (p0.length : Int)))
    ((cond (!t6)
      ((at? p0 t7).bind fun x20 =>
      (spec_l8Ahead x20 i1.1 i1.2.1).bind fun t26 =>
      some (!t26))
      (some false)).bind fun t28 =>
    cond t28
      ((app t5 [i1]).bind fun zs32 =>
      (at? p0 t7).bind fun x35 =>
      (cond (x35.1 != i1.1)
        (some true)
        ((at? p0 t7).bind fun x44 =>
        some (x44.2.1 != i1.2.1))).bind fun t50 =>
      cond t50
        ((at? p0 t7).bind fun x54 =>
        (app zs32 [x54]).bind fun zs57 =>
        some (.inl (true, w64 (t7 + 1), zs57)))
        (some (.inl (true, w64 (t7 + 1), zs32))))
      ((at? p0 t7).bind fun x35_1 =>
      (cond (x35_1.1 != i1.1)
        (some true)
        ((at? p0 t7).bind fun x44_1 =>
        some (x44_1.2.1 != i1.2.1))).bind fun t50_1 =>
      cond t50_1
        ((at? p0 t7).bind fun x54_1 =>
        (app t5 [x54_1]).bind fun zs57_1 =>
        some (.inl (t6, w64 (t7 + 1), zs57_1)))
        (some (.inl (t6, w64 (t7 + 1), t5)))))
    (some (.inr (t6, t5)))
noncomputable def spec_l8Put (p0 : List Fent) (i1 : Fent) : Option (List Fent) :=
  (loop (fun z => spec_l8Put_l0 p0 i1 z.1 z.2.1 z.2.2) (false, 0, ([] : List Fent))).bind fun d =>
  cond (!d.1)
    ((app d.2 [i1]).bind fun zs63 =>
    some zs63)
    (some d.2)
noncomputable def F_spec_l8Put : Fn := ⟨[.val false (.one (.sl cFent)) false, .val true cFent false], [.val false (.one (.sl cFent)) true], fun a => spec_l8Put a.1 a.2⟩
def a_spec_l8Put : List (Nat × LoopAnn) := [(0, ⟨⟨[(5, false, [.own 1000000000]), (6, false, [.dat .bool]), (7, false, [.dat (.int .i64)]), (18, false, [.undef]), (19, false, [.undef]), (20, false, [.undef]), (21, false, [.undef]), (22, false, [.undef]), (23, false, [.undef]), (24, false, [.undef]), (25, false, [.undef]), (26, false, [.undef]), (27, false, [.undef]), (42, false, [.undef]), (43, false, [.undef]), (44, false, [.undef]), (45, false, [.undef]), (46, false, [.undef]), (47, false, [.undef]), (48, false, [.undef]), (49, false, [.undef])], [(1000000000, .root cFent true)]⟩,
    ⟨[(5, false, [.own 1000000300]), (6, false, [.dat .bool])], [(1000000300, .root cFent true)]⟩, none⟩)]
theorem e_spec_l8Put : fnDen ⟨tis, fns_226⟩ a_spec_l8Put Try.f227 (codeOf Try.f227) [.val false (.one (.sl cFent)) false, .val true cFent false] [.val false (.one (.sl cFent)) true] = fun a => spec_l8Put a.1 a.2 := by kernel_rfl
theorem m_spec_l8Put : Meets Try.prog 227 F_spec_l8Put := by
  have h := meets_of (ann := a_spec_l8Put) (ps := [.val false (.one (.sl cFent)) false, .val true cFent false]) (rs := [.val false (.one (.sl cFent)) true]) g_226 mixed Try.func227 (by kernel_rfl) (by kernel_rfl : Try.f227.body = some (codeOf Try.f227))
  rw [e_spec_l8Put] at h
  exact h
noncomputable def fns_227 : List (FuncId × Fn) := (227, F_spec_l8Put) :: fns_226
theorem g_227 : Good Try.prog ⟨tis, fns_227⟩ := g_226.cons m_spec_l8Put
noncomputable def spec_Learn (l0 : List Fent) (tag1 : Int) (mac2 : Int) (port3 : Int) : Option (List Fent) :=
  (spec_l8At l0 tag1 mac2).bind fun t18 =>
  (spec_FdbOk l0).bind fun t20 =>
  (cond (!t20)
    (some true)
    ((spec_l8Ent (tag1, mac2, port3, 0, false)).bind fun t24 =>
    some (!t24))).bind fun t26 =>
  (cond t26
    (some true)
    ((cond (decide (t18 ≥ 0))
      ((at? l0 t18).bind fun x33 =>
      some x33.2.2.2.2)
      (some false)).bind fun t36 =>
    some t36)).bind fun t37 =>
  (cond t37
    (some true)
    ((cond (decide (t18 < 0)) (some (decide ((l0.length : Int) ≥ 12))) (some false)).bind fun t45 =>
    some t45)).bind fun t46 =>
  cond t46
    ((spec_l8Copy l0).bind fun t48 =>
    some t48)
    ((spec_l8Put l0 (tag1, mac2, port3, 0, false)).bind fun t51 =>
    some t51)
noncomputable def F_spec_Learn : Fn := ⟨[.val false (.one (.sl cFent)) false, .val false (.one (.int .i64)) false, .val false (.one (.int .i64)) false, .val false (.one (.int .i64)) false], [.val false (.one (.sl cFent)) true], fun a => spec_Learn a.1 a.2.1 a.2.2.1 a.2.2.2⟩
def a_spec_Learn : List (Nat × LoopAnn) := []
theorem e_spec_Learn : fnDen ⟨tis, fns_227⟩ a_spec_Learn Try.f179 (codeOf Try.f179) [.val false (.one (.sl cFent)) false, .val false (.one (.int .i64)) false, .val false (.one (.int .i64)) false, .val false (.one (.int .i64)) false] [.val false (.one (.sl cFent)) true] = fun a => spec_Learn a.1 a.2.1 a.2.2.1 a.2.2.2 := by kernel_rfl
theorem m_spec_Learn : Meets Try.prog 179 F_spec_Learn := by
  have h := meets_of (ann := a_spec_Learn) (ps := [.val false (.one (.sl cFent)) false, .val false (.one (.int .i64)) false, .val false (.one (.int .i64)) false, .val false (.one (.int .i64)) false]) (rs := [.val false (.one (.sl cFent)) true]) g_227 mixed Try.func179 (by kernel_rfl) (by kernel_rfl : Try.f179.body = some (codeOf Try.f179))
  rw [e_spec_Learn] at h
  exact h
noncomputable def fns_179 : List (FuncId × Fn) := (179, F_spec_Learn) :: fns_227
theorem g_179 : Good Try.prog ⟨tis, fns_179⟩ := g_227.cons m_spec_Learn
noncomputable def spec_l6Mac (c0 : L1Cur) : Option (L1Cur × Int) :=
  (spec_l1Int c0 ([11, 12, 13, 14] : List Int)).bind fun t5 =>
  some t5
noncomputable def F_spec_l6Mac : Fn := ⟨[.ptr cL1Cur false], [.val false (.one (.int .i64)) true], fun a => spec_l6Mac a⟩
def a_spec_l6Mac : List (Nat × LoopAnn) := []
theorem e_spec_l6Mac : fnDen ⟨tis, fns_179⟩ a_spec_l6Mac Try.f180 (codeOf Try.f180) [.ptr cL1Cur false] [.val false (.one (.int .i64)) true] = fun a => spec_l6Mac a := by kernel_rfl
theorem m_spec_l6Mac : Meets Try.prog 180 F_spec_l6Mac := by
  have h := meets_of (ann := a_spec_l6Mac) (ps := [.ptr cL1Cur false]) (rs := [.val false (.one (.int .i64)) true]) g_179 mixed Try.func180 (by kernel_rfl) (by kernel_rfl : Try.f180.body = some (codeOf Try.f180))
  rw [e_spec_l6Mac] at h
  exact h
noncomputable def fns_180 : List (FuncId × Fn) := (180, F_spec_l6Mac) :: fns_179
theorem g_180 : Good Try.prog ⟨tis, fns_180⟩ := g_179.cons m_spec_l6Mac
noncomputable def spec_SetStatic (l0 : List Fent) (tag1 : Int) (mac2 : Int) (port3 : Int) : Option ((List Fent) × Bool) :=
  (spec_FdbOk l0).bind fun t16 =>
  (cond (!t16)
    (some true)
    ((spec_l8Ent (tag1, mac2, port3, 0, true)).bind fun t20 =>
    some (!t20))).bind fun t22 =>
  (cond t22
    (some true)
    ((spec_l8At l0 tag1 mac2).bind fun t27 =>
    (cond (decide (t27 < 0)) (some (decide ((l0.length : Int) ≥ 12))) (some false)).bind fun t33 =>
    some t33)).bind fun t34 =>
  cond t34
    ((spec_l8Copy l0).bind fun t36 =>
    some (t36, false))
    ((spec_l8Put l0 (tag1, mac2, port3, 0, true)).bind fun t39 =>
    some (t39, true))
noncomputable def F_spec_SetStatic : Fn := ⟨[.val false (.one (.sl cFent)) false, .val false (.one (.int .i64)) false, .val false (.one (.int .i64)) false, .val false (.one (.int .i64)) false], [.val false (.one (.sl cFent)) true, .val false (.one .bool) true], fun a => spec_SetStatic a.1 a.2.1 a.2.2.1 a.2.2.2⟩
def a_spec_SetStatic : List (Nat × LoopAnn) := []
theorem e_spec_SetStatic : fnDen ⟨tis, fns_180⟩ a_spec_SetStatic Try.f182 (codeOf Try.f182) [.val false (.one (.sl cFent)) false, .val false (.one (.int .i64)) false, .val false (.one (.int .i64)) false, .val false (.one (.int .i64)) false] [.val false (.one (.sl cFent)) true, .val false (.one .bool) true] = fun a => spec_SetStatic a.1 a.2.1 a.2.2.1 a.2.2.2 := by kernel_rfl
theorem m_spec_SetStatic : Meets Try.prog 182 F_spec_SetStatic := by
  have h := meets_of (ann := a_spec_SetStatic) (ps := [.val false (.one (.sl cFent)) false, .val false (.one (.int .i64)) false, .val false (.one (.int .i64)) false, .val false (.one (.int .i64)) false]) (rs := [.val false (.one (.sl cFent)) true, .val false (.one .bool) true]) g_180 mixed Try.func182 (by kernel_rfl) (by kernel_rfl : Try.f182.body = some (codeOf Try.f182))
  rw [e_spec_SetStatic] at h
  exact h
noncomputable def fns_182 : List (FuncId × Fn) := (182, F_spec_SetStatic) :: fns_180
theorem g_182 : Good Try.prog ⟨tis, fns_182⟩ := g_180.cons m_spec_SetStatic
noncomputable def spec_l11Draw_l0 (t7 : L1Cur × Int) (t5 : Int) (b0 : List Int) (b1 : Int) (b2 : Int) (b0_1 : Int) (b1_1 : List UInt8) (b6 : Int) (b7 : Int) (b8 : Int) (b9 : Int) (b10 : Int) (b3 : List Fent) : Option ((Int × List Int × Int × Int × Int × List UInt8 × Int × Int × Int × Int × Int × List Fent) ⊕ (List Int × Int × Int × Int × List UInt8 × Int × Int × Int × Int × Int × List Fent)) :=
  cond (decide (t5 > 0))
    ((spec_l1Below (b0, b1, b2) 3).bind fun t35 =>
    (spec_l6Mac t35.1).bind fun t38 =>
    (spec_l1Below t38.1 (w64 (1 + t7.2))).bind fun t41 =>
    (spec_Learn b3 (w64 (1 + t35.2)) t38.2 t41.2).bind fun t42 =>
    some (.inl (w64 (t5 - 1), t41.1.1, t41.1.2.1, t41.1.2.2, b0_1, b1_1, b6, b7, b8, b9, b10, t42)))
    (some (.inr (b0, b1, b2, b0_1, b1_1, b6, b7, b8, b9, b10, b3)))
noncomputable def spec_l11Draw (p0 : L1Cur) : Option (L1Cur × Bridge) :=
  (spec_l1Below p0 4).bind fun t7 =>
  (spec_l1Below t7.1 5).bind fun t10 =>
  (spec_BridgeNew (w64 (1 + t10.2)) (w64 (1 + t7.2))).bind fun t13 =>
  (spec_l1Str t10.1 ([[], [121, 97, 114, 100], [98, 49]] : List (List UInt8))).bind fun t16 =>
  (spec_l10Draw t16.1 (w64 (1 + t7.2))).bind fun t20 =>
  (spec_l9Draw t20.1 (w64 (1 + t7.2))).bind fun t24 =>
  (spec_l1Below t24.1 6).bind fun t27 =>
  (loop (fun z => spec_l11Draw_l0 t7 z.1 z.2.1 z.2.2.1 z.2.2.2.1 z.2.2.2.2.1 z.2.2.2.2.2.1 z.2.2.2.2.2.2.1 z.2.2.2.2.2.2.2.1 z.2.2.2.2.2.2.2.2.1 z.2.2.2.2.2.2.2.2.2.1 z.2.2.2.2.2.2.2.2.2.2.1 z.2.2.2.2.2.2.2.2.2.2.2) (t27.2, t27.1.1, t27.1.2.1, t27.1.2.2, t13.1, t16.2, t13.2.2.2.2.2.2.1, t13.2.2.2.2.2.2.2.1, t13.2.2.2.2.2.2.2.2.1, t13.2.2.2.2.2.2.2.2.2.1, t13.2.2.2.2.2.2.2.2.2.2, t13.2.2.2.1)).bind fun d =>
  (spec_l1Once (d.1, d.2.1, d.2.2.1) 3).bind fun t45 =>
  cond t45.2
    ((spec_l6Mac t45.1).bind fun t50 =>
    (spec_l1Below t50.1 (w64 (1 + t7.2))).bind fun t53 =>
    (spec_SetStatic d.2.2.2.2.2.2.2.2.2.2 1 t50.2 t53.2).bind fun t54 =>
    (spec_l1Below t53.1 5).bind fun t59 =>
    (spec_l1Int t59.1 ([0, 1, 5, 1000000] : List Int)).bind fun t63 =>
    some (t63.1, (d.2.2.2.1, d.2.2.2.2.1, t20.2, t54.1, t24.2.1, t24.2.2, t59.2, d.2.2.2.2.2.2.1, d.2.2.2.2.2.2.2.1, d.2.2.2.2.2.2.2.2.1, t63.2)))
    ((spec_l1Below t45.1 5).bind fun t59_1 =>
    (spec_l1Int t59_1.1 ([0, 1, 5, 1000000] : List Int)).bind fun t63_1 =>
    some (t63_1.1, (d.2.2.2.1, d.2.2.2.2.1, t20.2, d.2.2.2.2.2.2.2.2.2.2, t24.2.1, t24.2.2, t59_1.2, d.2.2.2.2.2.2.1, d.2.2.2.2.2.2.2.1, d.2.2.2.2.2.2.2.2.1, t63_1.2)))
noncomputable def F_spec_l11Draw : Fn := ⟨[.ptr cL1Cur false], [.val true cBridge true], fun a => spec_l11Draw a⟩
def a_spec_l11Draw : List (Nat × LoopAnn) := [(0, ⟨⟨[(5, false, [.dat (.int .i64)])], [(1, .box [.dat (.sl (.one (.int .u8))), .dat (.int .i64), .dat (.int .i64)]), (530432, .box [.dat (.int .i64), .dat .str, .same 1051712, .own 1000000000, .same 1313856, .same 1313857, .dat (.int .i64), .dat (.int .i64), .dat (.int .i64), .dat (.int .i64), .dat (.int .i64)]), (1000000000, .root cFent true)]⟩,
    ⟨[], [(1, .box [.dat (.sl (.one (.int .u8))), .dat (.int .i64), .dat (.int .i64)]), (530432, .box [.dat (.int .i64), .dat .str, .same 1051712, .own 1000000300, .same 1313856, .same 1313857, .dat (.int .i64), .dat (.int .i64), .dat (.int .i64), .dat (.int .i64), .dat (.int .i64)]), (1000000300, .root cFent true)]⟩, none⟩)]
theorem e_spec_l11Draw : fnDen ⟨tis, fns_182⟩ a_spec_l11Draw Try.f105 (codeOf Try.f105) [.ptr cL1Cur false] [.val true cBridge true] = fun a => spec_l11Draw a := by kernel_rfl
theorem m_spec_l11Draw : Meets Try.prog 105 F_spec_l11Draw := by
  have h := meets_of (ann := a_spec_l11Draw) (ps := [.ptr cL1Cur false]) (rs := [.val true cBridge true]) g_182 mixed Try.func105 (by kernel_rfl) (by kernel_rfl : Try.f105.body = some (codeOf Try.f105))
  rw [e_spec_l11Draw] at h
  exact h
noncomputable def fns_105 : List (FuncId × Fn) := (105, F_spec_l11Draw) :: fns_182
theorem g_105 : Good Try.prog ⟨tis, fns_105⟩ := g_182.cons m_spec_l11Draw
noncomputable def spec_VecOk (v0 : Vec) : Option Bool :=
  (spec_l1In v0.1 1 99).bind fun t5 =>
  (cond t5
    ((spec_l1In v0.2.1 0 100000).bind fun t9 =>
    some t9)
    (some false)).bind fun t10 =>
  (cond t10
    ((spec_l1In v0.2.2.1 0 10).bind fun t14 =>
    some t14)
    (some false)).bind fun t15 =>
  (cond t15
    ((spec_l1In v0.2.2.2.1 1 99).bind fun t19 =>
    some t19)
    (some false)).bind fun t20 =>
  (cond t20
    ((spec_l1In v0.2.2.2.2 0 7).bind fun t24 =>
    some t24)
    (some false)).bind fun t25 =>
  some t25
noncomputable def F_spec_VecOk : Fn := ⟨[.val true cVec false], [.val false (.one .bool) true], fun a => spec_VecOk a⟩
def a_spec_VecOk : List (Nat × LoopAnn) := []
theorem e_spec_VecOk : fnDen ⟨tis, fns_105⟩ a_spec_VecOk Try.f228 (codeOf Try.f228) [.val true cVec false] [.val false (.one .bool) true] = fun a => spec_VecOk a := by kernel_rfl
theorem m_spec_VecOk : Meets Try.prog 228 F_spec_VecOk := by
  have h := meets_of (ann := a_spec_VecOk) (ps := [.val true cVec false]) (rs := [.val false (.one .bool) true]) g_105 mixed Try.func228 (by kernel_rfl) (by kernel_rfl : Try.f228.body = some (codeOf Try.f228))
  rw [e_spec_VecOk] at h
  exact h
noncomputable def fns_228 : List (FuncId × Fn) := (228, F_spec_VecOk) :: fns_105
theorem g_228 : Good Try.prog ⟨tis, fns_228⟩ := g_105.cons m_spec_VecOk
noncomputable def spec_PtOk (p0 : Pt) : Option Bool :=
  (spec_l1In p0.2.1 1 1000).bind fun t5 =>
  (cond (!t5)
    (some true)
    ((cond (!p0.1) (some p0.2.2.1) (some false)).bind fun t14 =>
    some t14)).bind fun t15 =>
  cond t15
    (some false)
    (cond (!p0.2.2.1)
      (let t2 := p0.2.2.2.1 == 0 && (p0.2.2.2.2.1 == 0 && (p0.2.2.2.2.2.1 == 0 && (p0.2.2.2.2.2.2.1 == 0 && (p0.2.2.2.2.2.2.2 == 0))))
      some t2)
      ((spec_VecOk p0.2.2.2).bind fun t25 =>
      some t25))
noncomputable def F_spec_PtOk : Fn := ⟨[.val true cPt false], [.val false (.one .bool) true], fun a => spec_PtOk a⟩
def a_spec_PtOk : List (Nat × LoopAnn) := []
theorem e_spec_PtOk : fnDen ⟨tis, fns_228⟩ a_spec_PtOk Try.f192 (codeOf Try.f192) [.val true cPt false] [.val false (.one .bool) true] = fun a => spec_PtOk a := by kernel_rfl
theorem m_spec_PtOk : Meets Try.prog 192 F_spec_PtOk := by
  have h := meets_of (ann := a_spec_PtOk) (ps := [.val true cPt false]) (rs := [.val false (.one .bool) true]) g_228 mixed Try.func192 (by kernel_rfl) (by kernel_rfl : Try.f192.body = some (codeOf Try.f192))
  rw [e_spec_PtOk] at h
  exact h
noncomputable def fns_192 : List (FuncId × Fn) := (192, F_spec_PtOk) :: fns_228
theorem g_192 : Good Try.prog ⟨tis, fns_192⟩ := g_228.cons m_spec_PtOk
noncomputable def spec_l11Counts (b0 : Bridge) : Option Bool :=
  (spec_l1In b0.2.2.2.2.2.2.1 0 1000000).bind fun t5 =>
  (cond t5
    ((spec_l1In b0.2.2.2.2.2.2.2.1 0 1000000).bind fun t9 =>
    some t9)
    (some false)).bind fun t10 =>
  (cond t10
    ((spec_l1In b0.2.2.2.2.2.2.2.2.1 0 1000000).bind fun t14 =>
    some t14)
    (some false)).bind fun t15 =>
  (cond t15
    ((spec_l1In b0.2.2.2.2.2.2.2.2.2.1 0 1000000).bind fun t19 =>
    some t19)
    (some false)).bind fun t20 =>
  (cond t20
    ((spec_l1In b0.2.2.2.2.2.2.2.2.2.2 0 1000000).bind fun t24 =>
    some t24)
    (some false)).bind fun t25 =>
  some t25
noncomputable def F_spec_l11Counts : Fn := ⟨[.val true cBridge false], [.val false (.one .bool) true], fun a => spec_l11Counts a⟩
def a_spec_l11Counts : List (Nat × LoopAnn) := []
theorem e_spec_l11Counts : fnDen ⟨tis, fns_192⟩ a_spec_l11Counts Try.f195 (codeOf Try.f195) [.val true cBridge false] [.val false (.one .bool) true] = fun a => spec_l11Counts a := by kernel_rfl
theorem m_spec_l11Counts : Meets Try.prog 195 F_spec_l11Counts := by
  have h := meets_of (ann := a_spec_l11Counts) (ps := [.val true cBridge false]) (rs := [.val false (.one .bool) true]) g_192 mixed Try.func195 (by kernel_rfl) (by kernel_rfl : Try.f195.body = some (codeOf Try.f195))
  rw [e_spec_l11Counts] at h
  exact h
noncomputable def fns_195 : List (FuncId × Fn) := (195, F_spec_l11Counts) :: fns_192
theorem g_195 : Good Try.prog ⟨tis, fns_195⟩ := g_192.cons m_spec_l11Counts
noncomputable def spec_BridgeOk_l0 (b0 : Bridge) (i3 : Int) : Option (Int ⊕ (Unit ⊕ Bool)) :=
  cond (decide (i3 < (b0.2.2.1.length : Int)))
    ((at? b0.2.2.1 i3).bind fun x14 =>
    (spec_PtOk x14).bind fun t16 =>
    cond (!t16) (some (.inr (.inr false))) (some (.inl (w64 (i3 + 1)))))
    (some (.inr (.inl ())))
noncomputable def spec_BridgeOk (b0 : Bridge) : Option Bool :=
  (loop (fun z => spec_BridgeOk_l0 b0 z) 0).bind (Sum.elim (fun d =>
    (spec_l1In b0.1 1 99).bind fun t20 =>
    (cond t20 (some (decide ((b0.2.1.length : Int) ≤ 10))) (some false)).bind fun t26 =>
    (cond t26
      ((spec_l1In (b0.2.2.1.length : Int) 1 6).bind fun t31 =>
      some t31)
      (some false)).bind fun t32 =>
    (cond t32
      ((spec_FdbOk b0.2.2.2.1).bind fun t36 =>
      some t36)
      (some false)).bind fun t37 =>
    (cond t37
      ((spec_VtabOk (b0.2.2.2.2.1, b0.2.2.2.2.2.1) (b0.2.2.1.length : Int)).bind fun t44 =>
      some t44)
      (some false)).bind fun t45 =>
    (cond t45
      ((spec_l11Counts b0).bind fun t48 =>
      some t48)
      (some false)).bind fun t49 =>
    some t49) (fun r => some r))
noncomputable def F_spec_BridgeOk : Fn := ⟨[.val true cBridge false], [.val false (.one .bool) true], fun a => spec_BridgeOk a⟩
def a_spec_BridgeOk : List (Nat × LoopAnn) := [(0, ⟨⟨[(3, false, [.dat (.int .i64)])], []⟩,
    ⟨[], []⟩, some ⟨[(2, false, [.dat .bool])], []⟩⟩)]
theorem e_spec_BridgeOk : fnDen ⟨tis, fns_195⟩ a_spec_BridgeOk Try.f122 (codeOf Try.f122) [.val true cBridge false] [.val false (.one .bool) true] = fun a => spec_BridgeOk a := by kernel_rfl
theorem m_spec_BridgeOk : Meets Try.prog 122 F_spec_BridgeOk := by
  have h := meets_of (ann := a_spec_BridgeOk) (ps := [.val true cBridge false]) (rs := [.val false (.one .bool) true]) g_195 mixed Try.func122 (by kernel_rfl) (by kernel_rfl : Try.f122.body = some (codeOf Try.f122))
  rw [e_spec_BridgeOk] at h
  exact h
noncomputable def fns_122 : List (FuncId × Fn) := (122, F_spec_BridgeOk) :: fns_195
theorem g_122 : Good Try.prog ⟨tis, fns_122⟩ := g_195.cons m_spec_BridgeOk
noncomputable def spec_l17Name (l0 : List Int) : Option (List Int) :=
  (app ([1, 3, 1] : List Int) l0).bind fun zs5 =>
  some zs5
noncomputable def F_spec_l17Name : Fn := ⟨[.val false (.one (.sl (.one (.int .i64)))) false], [.val false (.one (.sl (.one (.int .i64)))) true], fun a => spec_l17Name a⟩
def a_spec_l17Name : List (Nat × LoopAnn) := []
theorem e_spec_l17Name : fnDen ⟨tis, fns_122⟩ a_spec_l17Name Try.f123 (codeOf Try.f123) [.val false (.one (.sl (.one (.int .i64)))) false] [.val false (.one (.sl (.one (.int .i64)))) true] = fun a => spec_l17Name a := by kernel_rfl
theorem m_spec_l17Name : Meets Try.prog 123 F_spec_l17Name := by
  have h := meets_of (ann := a_spec_l17Name) (ps := [.val false (.one (.sl (.one (.int .i64)))) false]) (rs := [.val false (.one (.sl (.one (.int .i64)))) true]) g_122 mixed Try.func123 (by kernel_rfl) (by kernel_rfl : Try.f123.body = some (codeOf Try.f123))
  rw [e_spec_l17Name] at h
  exact h
noncomputable def fns_123 : List (FuncId × Fn) := (123, F_spec_l17Name) :: fns_122
theorem g_123 : Good Try.prog ⟨tis, fns_123⟩ := g_122.cons m_spec_l17Name
noncomputable def spec_l3Int (n0 : Int) : Option Val :=
  some (2, n0, [], [])
noncomputable def F_spec_l3Int : Fn := ⟨[.val false (.one (.int .i64)) false], [.val true cVal true], fun a => spec_l3Int a⟩
def a_spec_l3Int : List (Nat × LoopAnn) := []
theorem e_spec_l3Int : fnDen ⟨tis, fns_123⟩ a_spec_l3Int Try.f196 (codeOf Try.f196) [.val false (.one (.int .i64)) false] [.val true cVal true] = fun a => spec_l3Int a := by kernel_rfl
theorem m_spec_l3Int : Meets Try.prog 196 F_spec_l3Int := by
  have h := meets_of (ann := a_spec_l3Int) (ps := [.val false (.one (.int .i64)) false]) (rs := [.val true cVal true]) g_123 mixed Try.func196 (by kernel_rfl) (by kernel_rfl : Try.f196.body = some (codeOf Try.f196))
  rw [e_spec_l3Int] at h
  exact h
noncomputable def fns_196 : List (FuncId × Fn) := (196, F_spec_l3Int) :: fns_123
theorem g_196 : Good Try.prog ⟨tis, fns_196⟩ := g_123.cons m_spec_l3Int
noncomputable def spec_l17Add (out0 : List Bind) (name1 : List Int) (n2 : Int) : Option (List Bind) :=
  (spec_l17Name name1).bind fun t9 =>
  (spec_l3Int n2).bind fun t11 =>
  (app out0 [(t9, t11.1, t11.2.1, t11.2.2.1, t11.2.2.2)]).bind fun zs14 =>
  some zs14
noncomputable def F_spec_l17Add : Fn := ⟨[.val false (.one (.sl cBind)) true, .val false (.one (.sl (.one (.int .i64)))) false, .val false (.one (.int .i64)) false], [.val false (.one (.sl cBind)) true], fun a => spec_l17Add a.1 a.2.1 a.2.2⟩
def a_spec_l17Add : List (Nat × LoopAnn) := []
theorem e_spec_l17Add : fnDen ⟨tis, fns_196⟩ a_spec_l17Add Try.f124 (codeOf Try.f124) [.val false (.one (.sl cBind)) true, .val false (.one (.sl (.one (.int .i64)))) false, .val false (.one (.int .i64)) false] [.val false (.one (.sl cBind)) true] = fun a => spec_l17Add a.1 a.2.1 a.2.2 := by kernel_rfl
theorem m_spec_l17Add : Meets Try.prog 124 F_spec_l17Add := by
  have h := meets_of (ann := a_spec_l17Add) (ps := [.val false (.one (.sl cBind)) true, .val false (.one (.sl (.one (.int .i64)))) false, .val false (.one (.int .i64)) false]) (rs := [.val false (.one (.sl cBind)) true]) g_196 mixed Try.func124 (by kernel_rfl) (by kernel_rfl : Try.f124.body = some (codeOf Try.f124))
  rw [e_spec_l17Add] at h
  exact h
noncomputable def fns_124 : List (FuncId × Fn) := (124, F_spec_l17Add) :: fns_196
theorem g_124 : Good Try.prog ⟨tis, fns_124⟩ := g_196.cons m_spec_l17Add
noncomputable def spec_LessVec (a0 : Vec) (b1 : Vec) : Option Bool :=
  cond (a0.1 != b1.1)
    (some (decide (a0.1 < b1.1)))
    (cond (a0.2.1 != b1.2.1)
      (some (decide (a0.2.1 < b1.2.1)))
      (cond (a0.2.2.2.1 != b1.2.2.2.1)
        (let t4 := decide (a0.2.2.2.1 < b1.2.2.2.1)
        some t4)
        (let t4_1 := decide (a0.2.2.2.2 < b1.2.2.2.2)
        some t4_1)))
noncomputable def F_spec_LessVec : Fn := ⟨[.val true cVec false, .val true cVec false], [.val false (.one .bool) true], fun a => spec_LessVec a.1 a.2⟩
def a_spec_LessVec : List (Nat × LoopAnn) := []
theorem e_spec_LessVec : fnDen ⟨tis, fns_124⟩ a_spec_LessVec Try.f146 (codeOf Try.f146) [.val true cVec false, .val true cVec false] [.val false (.one .bool) true] = fun a => spec_LessVec a.1 a.2 := by kernel_rfl
theorem m_spec_LessVec : Meets Try.prog 146 F_spec_LessVec := by
  have h := meets_of (ann := a_spec_LessVec) (ps := [.val true cVec false, .val true cVec false]) (rs := [.val false (.one .bool) true]) g_124 mixed Try.func146 (by kernel_rfl) (by kernel_rfl : Try.f146.body = some (codeOf Try.f146))
  rw [e_spec_LessVec] at h
  exact h
noncomputable def fns_146 : List (FuncId × Fn) := (146, F_spec_LessVec) :: fns_124
theorem g_146 : Good Try.prog ⟨tis, fns_146⟩ := g_124.cons m_spec_LessVec
noncomputable def spec_StepVec (v0 : Vec) (cost1 : Int) : Option (Vec × Bool) :=
  (spec_VecOk v0).bind fun t8 =>
  (cond (!t8)
    (some true)
    ((spec_l1In cost1 1 1000).bind fun t12 =>
    some (!t12))).bind fun t14 =>
  cond t14
    (some (v0, false))
    ((spec_VecOk (v0.1, w64 (v0.2.1 + cost1), w64 (v0.2.2.1 + 1), v0.2.2.2.1, v0.2.2.2.2)).bind fun t27 =>
    cond (!t27)
      (some (v0, false))
      (some ((v0.1, w64 (v0.2.1 + cost1), w64 (v0.2.2.1 + 1), v0.2.2.2.1, v0.2.2.2.2), true)))
noncomputable def F_spec_StepVec : Fn := ⟨[.val true cVec false, .val false (.one (.int .i64)) false], [.val true cVec true, .val false (.one .bool) true], fun a => spec_StepVec a.1 a.2⟩
def a_spec_StepVec : List (Nat × LoopAnn) := []
theorem e_spec_StepVec : fnDen ⟨tis, fns_146⟩ a_spec_StepVec Try.f200 (codeOf Try.f200) [.val true cVec false, .val false (.one (.int .i64)) false] [.val true cVec true, .val false (.one .bool) true] = fun a => spec_StepVec a.1 a.2 := by kernel_rfl
theorem m_spec_StepVec : Meets Try.prog 200 F_spec_StepVec := by
  have h := meets_of (ann := a_spec_StepVec) (ps := [.val true cVec false, .val false (.one (.int .i64)) false]) (rs := [.val true cVec true, .val false (.one .bool) true]) g_146 mixed Try.func200 (by kernel_rfl) (by kernel_rfl : Try.f200.body = some (codeOf Try.f200))
  rw [e_spec_StepVec] at h
  exact h
noncomputable def fns_200 : List (FuncId × Fn) := (200, F_spec_StepVec) :: fns_146
theorem g_200 : Good Try.prog ⟨tis, fns_200⟩ := g_146.cons m_spec_StepVec
noncomputable def spec_BestVec_l0 (p0 : Int) (i1 : List Pt) (t8 : Int) (t9 : Int) (b0 : Int) (b1 : Int) (b2 : Int) (b3 : Int) (b4 : Int) (b0_1 : Int) (b1_1 : Int) (b2_1 : Int) (b3_1 : Int) (b4_1 : Int) : Option ((Int × Int × Int × Int × Int × Int × Int × Int × Int × Int × Int × Int) ⊕ (Int × Int × Int × Int × Int × Int × Int × Int × Int × Int × Int)) :=
  cond (decide (t9 < (i1.length : Int)))
    ((at? i1 t9).bind fun x24 =>
    (cond (!x24.1)
      (some true)
      ((at? i1 t9).bind fun x31 =>
      some (!x31.2.2.1))).bind fun t35 =>
    cond t35
      (some (.inl (t8, w64 (t9 + 1), b0, b1, b2, b3, b4, b0_1, b1_1, b2_1, b3_1, b4_1)))
      ((at? i1 t9).bind fun x39 =>
      (at? i1 t9).bind fun x44 =>
      (spec_StepVec x39.2.2.2 x44.2.1).bind fun t47 =>
      (cond t47.2 (some (decide (t47.1.1 < p0))) (some false)).bind fun t56 =>
      (cond t56
        ((cond (decide (t8 < 0))
          (some true)
          ((spec_LessVec t47.1 (b0_1, b1_1, b2_1, b3_1, b4_1)).bind fun t63 =>
          some t63)).bind fun t64 =>
        some t64)
        (some false)).bind fun t65 =>
      cond t65
        (some (.inl (t9, w64 (t9 + 1), t47.1.1, t47.1.2.1, t47.1.2.2.1, p0, 0, t47.1.1, t47.1.2.1, t47.1.2.2.1, t47.1.2.2.2.1, t47.1.2.2.2.2)))
        (some (.inl (t8, w64 (t9 + 1), b0, b1, b2, b3, b4, b0_1, b1_1, b2_1, b3_1, b4_1)))))
    (some (.inr (t8, b0, b1, b2, b3, b4, b0_1, b1_1, b2_1, b3_1, b4_1)))
noncomputable def spec_BestVec (p0 : Int) (i1 : List Pt) : Option (Vec × Int) :=
  (loop (fun z => spec_BestVec_l0 p0 i1 z.1 z.2.1 z.2.2.1 z.2.2.2.1 z.2.2.2.2.1 z.2.2.2.2.2.1 z.2.2.2.2.2.2.1 z.2.2.2.2.2.2.2.1 z.2.2.2.2.2.2.2.2.1 z.2.2.2.2.2.2.2.2.2.1 z.2.2.2.2.2.2.2.2.2.2.1 z.2.2.2.2.2.2.2.2.2.2.2) ((-1), 0, p0, 0, 0, p0, 0, 0, 0, 0, 0, 0)).bind fun d =>
  some ((d.2.1, d.2.2.1, d.2.2.2.1, d.2.2.2.2.1, d.2.2.2.2.2.1), d.1)
noncomputable def F_spec_BestVec : Fn := ⟨[.val false (.one (.int .i64)) false, .val false (.one (.sl cPt)) false], [.val true cVec true, .val false (.one (.int .i64)) true], fun a => spec_BestVec a.1 a.2⟩
def a_spec_BestVec : List (Nat × LoopAnn) := [(0, ⟨⟨[(8, false, [.dat (.int .i64)]), (9, false, [.dat (.int .i64)]), (29, false, [.undef]), (30, false, [.undef]), (31, false, [.undef]), (32, false, [.undef]), (33, false, [.undef]), (34, false, [.undef]), (52, false, [.undef]), (53, false, [.undef]), (54, false, [.undef]), (55, false, [.undef]), (58, false, [.undef]), (59, false, [.undef]), (60, false, [.undef]), (61, false, [.undef]), (62, false, [.undef]), (63, false, [.undef]), (64, false, [.undef])], [(266240, .box [.dat (.int .i64), .dat (.int .i64), .dat (.int .i64), .dat (.int .i64), .dat (.int .i64)]), (526336, .box [.dat (.int .i64), .dat (.int .i64), .dat (.int .i64), .dat (.int .i64), .dat (.int .i64)])]⟩,
    ⟨[(8, false, [.dat (.int .i64)])], [(266240, .box [.dat (.int .i64), .dat (.int .i64), .dat (.int .i64), .dat (.int .i64), .dat (.int .i64)]), (526336, .box [.dat (.int .i64), .dat (.int .i64), .dat (.int .i64), .dat (.int .i64), .dat (.int .i64)])]⟩, none⟩)]
theorem e_spec_BestVec : fnDen ⟨tis, fns_200⟩ a_spec_BestVec Try.f145 (codeOf Try.f145) [.val false (.one (.int .i64)) false, .val false (.one (.sl cPt)) false] [.val true cVec true, .val false (.one (.int .i64)) true] = fun a => spec_BestVec a.1 a.2 := by kernel_rfl
theorem m_spec_BestVec : Meets Try.prog 145 F_spec_BestVec := by
  have h := meets_of (ann := a_spec_BestVec) (ps := [.val false (.one (.int .i64)) false, .val false (.one (.sl cPt)) false]) (rs := [.val true cVec true, .val false (.one (.int .i64)) true]) g_200 mixed Try.func145 (by kernel_rfl) (by kernel_rfl : Try.f145.body = some (codeOf Try.f145))
  rw [e_spec_BestVec] at h
  exact h
noncomputable def fns_145 : List (FuncId × Fn) := (145, F_spec_BestVec) :: fns_200
theorem g_145 : Good Try.prog ⟨tis, fns_145⟩ := g_200.cons m_spec_BestVec
noncomputable def spec_SayVec (id0 : Int) (l1 : List Pt) (port2 : Int) : Option Vec :=
  (spec_BestVec id0 l1).bind fun t12 =>
  some (t12.1.1, t12.1.2.1, t12.1.2.2.1, t12.1.2.2.2.1, port2)
noncomputable def F_spec_SayVec : Fn := ⟨[.val false (.one (.int .i64)) false, .val false (.one (.sl cPt)) false, .val false (.one (.int .i64)) false], [.val true cVec true], fun a => spec_SayVec a.1 a.2.1 a.2.2⟩
def a_spec_SayVec : List (Nat × LoopAnn) := []
theorem e_spec_SayVec : fnDen ⟨tis, fns_145⟩ a_spec_SayVec Try.f147 (codeOf Try.f147) [.val false (.one (.int .i64)) false, .val false (.one (.sl cPt)) false, .val false (.one (.int .i64)) false] [.val true cVec true] = fun a => spec_SayVec a.1 a.2.1 a.2.2 := by kernel_rfl
theorem m_spec_SayVec : Meets Try.prog 147 F_spec_SayVec := by
  have h := meets_of (ann := a_spec_SayVec) (ps := [.val false (.one (.int .i64)) false, .val false (.one (.sl cPt)) false, .val false (.one (.int .i64)) false]) (rs := [.val true cVec true]) g_145 mixed Try.func147 (by kernel_rfl) (by kernel_rfl : Try.f147.body = some (codeOf Try.f147))
  rw [e_spec_SayVec] at h
  exact h
noncomputable def fns_147 : List (FuncId × Fn) := (147, F_spec_SayVec) :: fns_145
theorem g_147 : Good Try.prog ⟨tis, fns_147⟩ := g_145.cons m_spec_SayVec
noncomputable def spec_RoleOf (id0 : Int) (l1 : List Pt) (port2 : Int) : Option Int :=
  (spec_l1In port2 0 (w64 ((l1.length : Int) - 1))).bind fun t13 =>
  (cond (!t13)
    (some true)
    ((at? l1 port2).bind fun x18 =>
    some (!x18.1))).bind fun t22 =>
  cond t22
    (some 4)
    ((spec_BestVec id0 l1).bind fun t26 =>
    cond (t26.2 == port2)
      (some 1)
      ((at? l1 port2).bind fun x36 =>
      (cond (!x36.2.2.1)
        (some true)
        ((spec_SayVec id0 l1 port2).bind fun t44 =>
        (at? l1 port2).bind fun x47 =>
        (spec_LessVec t44 x47.2.2.2).bind fun t50 =>
        some t50)).bind fun t51 =>
      cond t51 (some 2) (some 3)))
noncomputable def F_spec_RoleOf : Fn := ⟨[.val false (.one (.int .i64)) false, .val false (.one (.sl cPt)) false, .val false (.one (.int .i64)) false], [.val false (.one (.int .i64)) true], fun a => spec_RoleOf a.1 a.2.1 a.2.2⟩
def a_spec_RoleOf : List (Nat × LoopAnn) := []
theorem e_spec_RoleOf : fnDen ⟨tis, fns_147⟩ a_spec_RoleOf Try.f75 (codeOf Try.f75) [.val false (.one (.int .i64)) false, .val false (.one (.sl cPt)) false, .val false (.one (.int .i64)) false] [.val false (.one (.int .i64)) true] = fun a => spec_RoleOf a.1 a.2.1 a.2.2 := by kernel_rfl
theorem m_spec_RoleOf : Meets Try.prog 75 F_spec_RoleOf := by
  have h := meets_of (ann := a_spec_RoleOf) (ps := [.val false (.one (.int .i64)) false, .val false (.one (.sl cPt)) false, .val false (.one (.int .i64)) false]) (rs := [.val false (.one (.int .i64)) true]) g_147 mixed Try.func75 (by kernel_rfl) (by kernel_rfl : Try.f75.body = some (codeOf Try.f75))
  rw [e_spec_RoleOf] at h
  exact h
noncomputable def fns_75 : List (FuncId × Fn) := (75, F_spec_RoleOf) :: fns_147
theorem g_75 : Good Try.prog ⟨tis, fns_75⟩ := g_147.cons m_spec_RoleOf
noncomputable def spec_l17Port (b0 : Bridge) (c1 : Int) (p2 : Int) : Option Int :=
  cond (c1 == 1)
    ((at? b0.2.2.1 p2).bind fun x13 =>
    cond x13.1 (some 1) (some 0))
    (cond (c1 == 2)
      ((at? b0.2.2.1 p2).bind fun x21 =>
      some x21.2.1)
      (cond (c1 == 3)
        ((spec_RoleOf b0.1 b0.2.2.1 p2).bind fun t31 =>
        some t31)
        ((at? b0.2.2.2.2.2.1 p2).bind fun x36 =>
        some x36)))
noncomputable def F_spec_l17Port : Fn := ⟨[.val true cBridge false, .val false (.one (.int .i64)) false, .val false (.one (.int .i64)) false], [.val false (.one (.int .i64)) true], fun a => spec_l17Port a.1 a.2.1 a.2.2⟩
def a_spec_l17Port : List (Nat × LoopAnn) := []
theorem e_spec_l17Port : fnDen ⟨tis, fns_75⟩ a_spec_l17Port Try.f125 (codeOf Try.f125) [.val true cBridge false, .val false (.one (.int .i64)) false, .val false (.one (.int .i64)) false] [.val false (.one (.int .i64)) true] = fun a => spec_l17Port a.1 a.2.1 a.2.2 := by kernel_rfl
theorem m_spec_l17Port : Meets Try.prog 125 F_spec_l17Port := by
  have h := meets_of (ann := a_spec_l17Port) (ps := [.val true cBridge false, .val false (.one (.int .i64)) false, .val false (.one (.int .i64)) false]) (rs := [.val false (.one (.int .i64)) true]) g_75 mixed Try.func125 (by kernel_rfl) (by kernel_rfl : Try.f125.body = some (codeOf Try.f125))
  rw [e_spec_l17Port] at h
  exact h
noncomputable def fns_125 : List (FuncId × Fn) := (125, F_spec_l17Port) :: fns_75
theorem g_125 : Good Try.prog ⟨tis, fns_125⟩ := g_75.cons m_spec_l17Port
noncomputable def spec_l17Row (r0 : Vrow) (c1 : Int) : Option Int :=
  cond (c1 == 1) (some 1) (cond (c1 == 2) (some r0.2.1) (some r0.2.2))
noncomputable def F_spec_l17Row : Fn := ⟨[.val true cVrow false, .val false (.one (.int .i64)) false], [.val false (.one (.int .i64)) true], fun a => spec_l17Row a.1 a.2⟩
def a_spec_l17Row : List (Nat × LoopAnn) := []
theorem e_spec_l17Row : fnDen ⟨tis, fns_125⟩ a_spec_l17Row Try.f126 (codeOf Try.f126) [.val true cVrow false, .val false (.one (.int .i64)) false] [.val false (.one (.int .i64)) true] = fun a => spec_l17Row a.1 a.2 := by kernel_rfl
theorem m_spec_l17Row : Meets Try.prog 126 F_spec_l17Row := by
  have h := meets_of (ann := a_spec_l17Row) (ps := [.val true cVrow false, .val false (.one (.int .i64)) false]) (rs := [.val false (.one (.int .i64)) true]) g_125 mixed Try.func126 (by kernel_rfl) (by kernel_rfl : Try.f126.body = some (codeOf Try.f126))
  rw [e_spec_l17Row] at h
  exact h
noncomputable def fns_126 : List (FuncId × Fn) := (126, F_spec_l17Row) :: fns_125
theorem g_126 : Good Try.prog ⟨tis, fns_126⟩ := g_125.cons m_spec_l17Row
noncomputable def spec_MibList_l2 (p0 : Bridge) (t4 : Int) (t5 : Int) (t3_1 : List Bind) : Option ((Int × List Bind) ⊕ (List Bind)) :=
  cond (decide (t5 < (p0.2.2.1.length : Int)))
    ((spec_l17Port p0 t4 t5).bind fun t59 =>
    (spec_l17Add t3_1 [2, t4, w64 (t5 + 1)] t59).bind fun t60 =>
    some (.inl (w64 (t5 + 1), t60)))
    (some (.inr t3_1))
noncomputable def spec_MibList_l0 (p0 : Bridge) (t4 : Int) (t3 : List Bind) : Option ((Int × List Bind) ⊕ (List Bind)) :=
  cond (decide (t4 ≤ 4))
    ((loop (fun z => spec_MibList_l2 p0 t4 z.1 z.2) (0, t3)).bind fun d =>
    some (.inl (w64 (t4 + 1), d)))
    (some (.inr t3))
noncomputable def spec_MibList_l6 (p0 : Bridge) (t6 : Int) (t7 : Int) (t3_5 : List Bind) : Option ((Int × List Bind) ⊕ (List Bind)) :=
  cond (decide (t7 < (p0.2.2.2.2.1.length : Int)))
    ((at? p0.2.2.2.2.1 t7).bind fun x79 =>
    (at? p0.2.2.2.2.1 t7).bind fun x87 =>
    (spec_l17Row x87 t6).bind fun t90 =>
    (spec_l17Add t3_5 [3, t6, x79.1] t90).bind fun t91 =>
    some (.inl (w64 (t7 + 1), t91)))
    (some (.inr t3_5))
noncomputable def spec_MibList_l4 (p0 : Bridge) (t6 : Int) (t3_4 : List Bind) : Option ((Int × List Bind) ⊕ (List Bind)) :=
  cond (decide (t6 ≤ 3))
    ((loop (fun z => spec_MibList_l6 p0 t6 z.1 z.2) (0, t3_4)).bind fun d_2 =>
    some (.inl (w64 (t6 + 1), d_2)))
    (some (.inr t3_4))
noncomputable def spec_MibList_l8 (p0 : Bridge) (t8 : Int) (t3_8 : List Bind) : Option ((Int × List Bind) ⊕ (List Bind)) :=
  cond (decide (t8 < (p0.2.2.2.1.length : Int)))
    ((at? p0.2.2.2.1 t8).bind fun x103 =>
    (at? p0.2.2.2.1 t8).bind fun x109 =>
    (at? p0.2.2.2.1 t8).bind fun x116 =>
    (spec_l17Add t3_8 [4, 1, x103.1, x109.2.1] (w64 (x116.2.2.1 + 1))).bind fun t120 =>
    some (.inl (w64 (t8 + 1), t120)))
    (some (.inr t3_8))
noncomputable def spec_MibList (p0 : Bridge) : Option (List Bind) :=
  (spec_BridgeOk p0).bind fun t10 =>
  cond (!t10)
    (some ([] : List Bind))
    ((spec_l17Name ([1, 1] : List Int)).bind fun t14 =>
    (spec_l17Add ([(t14, 4, 0, p0.2.1, [])]) ([1, 2] : List Int) p0.2.2.2.2.2.2.1).bind fun t24 =>
    (spec_l17Add t24 ([1, 3] : List Int) p0.2.2.2.2.2.2.2.1).bind fun t29 =>
    (spec_l17Add t29 ([1, 4] : List Int) p0.2.2.2.2.2.2.2.2.1).bind fun t34 =>
    (spec_l17Add t34 ([1, 5] : List Int) p0.2.2.2.2.2.2.2.2.2.1).bind fun t39 =>
    (loop (fun z => spec_MibList_l0 p0 z.1 z.2) (1, t39)).bind fun d_1 =>
    (loop (fun z => spec_MibList_l4 p0 z.1 z.2) (1, d_1)).bind fun d_3 =>
    (loop (fun z => spec_MibList_l8 p0 z.1 z.2) (0, d_3)).bind fun d_4 =>
    some d_4)
noncomputable def F_spec_MibList : Fn := ⟨[.val true cBridge false], [.val false (.one (.sl cBind)) true], fun a => spec_MibList a⟩
def a_spec_MibList : List (Nat × LoopAnn) := [(0, ⟨⟨[(3, false, [.own 1000000000]), (4, false, [.dat (.int .i64)])], [(1000000000, .root cBind true)]⟩,
    ⟨[(3, false, [.own 1000000300])], [(1000000300, .root cBind true)]⟩, none⟩),
  (2, ⟨⟨[(3, false, [.own 1000002000]), (5, false, [.dat (.int .i64)])], [(1000002000, .root cBind true)]⟩,
    ⟨[(3, false, [.own 1000002300])], [(1000002300, .root cBind true)]⟩, none⟩),
  (4, ⟨⟨[(3, false, [.own 1000004000]), (6, false, [.dat (.int .i64)])], [(1000004000, .root cBind true)]⟩,
    ⟨[(3, false, [.own 1000004300])], [(1000004300, .root cBind true)]⟩, none⟩),
  (6, ⟨⟨[(3, false, [.own 1000006000]), (7, false, [.dat (.int .i64)])], [(1000006000, .root cBind true)]⟩,
    ⟨[(3, false, [.own 1000006300])], [(1000006300, .root cBind true)]⟩, none⟩),
  (8, ⟨⟨[(3, false, [.own 1000008000]), (8, false, [.dat (.int .i64)])], [(1000008000, .root cBind true)]⟩,
    ⟨[(3, false, [.own 1000008300])], [(1000008300, .root cBind true)]⟩, none⟩)]
theorem e_spec_MibList : fnDen ⟨tis, fns_126⟩ a_spec_MibList Try.f53 (codeOf Try.f53) [.val true cBridge false] [.val false (.one (.sl cBind)) true] = fun a => spec_MibList a := by kernel_rfl
theorem m_spec_MibList : Meets Try.prog 53 F_spec_MibList := by
  have h := meets_of (ann := a_spec_MibList) (ps := [.val true cBridge false]) (rs := [.val false (.one (.sl cBind)) true]) g_126 mixed Try.func53 (by kernel_rfl) (by kernel_rfl : Try.f53.body = some (codeOf Try.f53))
  rw [e_spec_MibList] at h
  exact h
noncomputable def fns_53 : List (FuncId × Fn) := (53, F_spec_MibList) :: fns_126
theorem g_53 : Good Try.prog ⟨tis, fns_53⟩ := g_126.cons m_spec_MibList
noncomputable def spec_l2Draw_l0 (i4 : Int) (b0 : List Int) (b1 : Int) (b2 : Int) (out3 : List Int) : Option ((Int × List Int × Int × Int × List Int) ⊕ (List Int × Int × Int × List Int)) :=
  cond (decide (i4 > 0))
    ((spec_l1Int (b0, b1, b2) ([0, 1, 2, 3, 127, 128, 16384, 100000] : List Int)).bind fun t16 =>
    (app out3 [t16.2]).bind fun zs18 =>
    some (.inl (w64 (i4 - 1), t16.1.1, t16.1.2.1, t16.1.2.2, zs18)))
    (some (.inr (b0, b1, b2, out3)))
noncomputable def spec_l2Draw (c0 : L1Cur) : Option (L1Cur × List Int) :=
  (spec_l1Below c0 6).bind fun t7 =>
  (loop (fun z => spec_l2Draw_l0 z.1 z.2.1 z.2.2.1 z.2.2.2.1 z.2.2.2.2) (w64 (1 + t7.2), t7.1.1, t7.1.2.1, t7.1.2.2, ([] : List Int))).bind fun d =>
  some ((d.1, d.2.1, d.2.2.1), d.2.2.2)
noncomputable def F_spec_l2Draw : Fn := ⟨[.ptr cL1Cur false], [.val false (.one (.sl (.one (.int .i64)))) true], fun a => spec_l2Draw a⟩
def a_spec_l2Draw : List (Nat × LoopAnn) := [(0, ⟨⟨[(3, false, [.own 1000000000]), (4, false, [.dat (.int .i64)])], [(1, .box [.dat (.sl (.one (.int .u8))), .dat (.int .i64), .dat (.int .i64)]), (1000000000, .root (.one (.int .i64)) true)]⟩,
    ⟨[(3, false, [.own 1000000300])], [(1, .box [.dat (.sl (.one (.int .u8))), .dat (.int .i64), .dat (.int .i64)]), (1000000300, .root (.one (.int .i64)) true)]⟩, none⟩)]
theorem e_spec_l2Draw : fnDen ⟨tis, fns_53⟩ a_spec_l2Draw Try.f184 (codeOf Try.f184) [.ptr cL1Cur false] [.val false (.one (.sl (.one (.int .i64)))) true] = fun a => spec_l2Draw a := by kernel_rfl
theorem m_spec_l2Draw : Meets Try.prog 184 F_spec_l2Draw := by
  have h := meets_of (ann := a_spec_l2Draw) (ps := [.ptr cL1Cur false]) (rs := [.val false (.one (.sl (.one (.int .i64)))) true]) g_53 mixed Try.func184 (by kernel_rfl) (by kernel_rfl : Try.f184.body = some (codeOf Try.f184))
  rw [e_spec_l2Draw] at h
  exact h
noncomputable def fns_184 : List (FuncId × Fn) := (184, F_spec_l2Draw) :: fns_53
theorem g_184 : Good Try.prog ⟨tis, fns_184⟩ := g_53.cons m_spec_l2Draw
noncomputable def spec_l17Oid (c0 : L1Cur) (b1 : Bridge) : Option (L1Cur × List Int) :=
  (spec_MibList b1).bind fun t7 =>
  cond (decide ((t7.length : Int) > 0))
    ((spec_l1Once c0 4).bind fun t13 =>
    cond (!t13.2)
      ((spec_l1Below t13.1 (t7.length : Int)).bind fun t21 =>
      (ix t7.length t21.2).bind fun j22 =>
      (t7[j22]?).bind fun x24 =>
      (app ([] : List Int) x24.1).bind fun zs25 =>
      some (t21.1, zs25))
      ((spec_l1Below t13.1 8).bind fun t27 =>
      cond (t27.2 == 0)
        (some (t27.1, ([0] : List Int)))
        (cond (t27.2 == 1)
          (some (t27.1, ([1, 3, 1] : List Int)))
          (cond (t27.2 == 2)
            ((spec_l17Name ([2, 2, 9] : List Int)).bind fun t37 =>
            some (t27.1, t37))
            (cond (t27.2 == 3)
              ((spec_l1Below t27.1 9).bind fun t41 =>
              (spec_l17Name [3, 1, w64 (1 + t41.2)]).bind fun t44 =>
              some (t41.1, t44))
              (cond (t27.2 == 4)
                ((spec_l17Name ([2, 2] : List Int)).bind fun t48 =>
                some (t27.1, t48))
                (cond (t27.2 == 5)
                  ((spec_l17Name ([9] : List Int)).bind fun t52 =>
                  some (t27.1, t52))
                  (cond (t27.2 == 6)
                    ((spec_l17Name ([4, 1, 2, 11] : List Int)).bind fun t56 =>
                    some (t27.1, t56))
                    ((spec_l2Draw t27.1).bind fun t58 =>
                    some t58)))))))))
    ((spec_l1Below c0 8).bind fun t27_1 =>
    cond (t27_1.2 == 0)
      (some (t27_1.1, ([0] : List Int)))
      (cond (t27_1.2 == 1)
        (some (t27_1.1, ([1, 3, 1] : List Int)))
        (cond (t27_1.2 == 2)
          ((spec_l17Name ([2, 2, 9] : List Int)).bind fun t37_1 =>
          some (t27_1.1, t37_1))
          (cond (t27_1.2 == 3)
            ((spec_l1Below t27_1.1 9).bind fun t41_1 =>
            (spec_l17Name [3, 1, w64 (1 + t41_1.2)]).bind fun t44_1 =>
            some (t41_1.1, t44_1))
            (cond (t27_1.2 == 4)
              ((spec_l17Name ([2, 2] : List Int)).bind fun t48_1 =>
              some (t27_1.1, t48_1))
              (cond (t27_1.2 == 5)
                ((spec_l17Name ([9] : List Int)).bind fun t52_1 =>
                some (t27_1.1, t52_1))
                (cond (t27_1.2 == 6)
                  ((spec_l17Name ([4, 1, 2, 11] : List Int)).bind fun t56_1 =>
                  some (t27_1.1, t56_1))
                  ((spec_l2Draw t27_1.1).bind fun t58_1 =>
                  some t58_1))))))))
noncomputable def F_spec_l17Oid : Fn := ⟨[.ptr cL1Cur false, .val true cBridge false], [.val false (.one (.sl (.one (.int .i64)))) true], fun a => spec_l17Oid a.1 a.2⟩
def a_spec_l17Oid : List (Nat × LoopAnn) := []
theorem e_spec_l17Oid : fnDen ⟨tis, fns_184⟩ a_spec_l17Oid Try.f106 (codeOf Try.f106) [.ptr cL1Cur false, .val true cBridge false] [.val false (.one (.sl (.one (.int .i64)))) true] = fun a => spec_l17Oid a.1 a.2 := by kernel_rfl
theorem m_spec_l17Oid : Meets Try.prog 106 F_spec_l17Oid := by
  have h := meets_of (ann := a_spec_l17Oid) (ps := [.ptr cL1Cur false, .val true cBridge false]) (rs := [.val false (.one (.sl (.one (.int .i64)))) true]) g_184 mixed Try.func106 (by kernel_rfl) (by kernel_rfl : Try.f106.body = some (codeOf Try.f106))
  rw [e_spec_l17Oid] at h
  exact h
noncomputable def fns_106 : List (FuncId × Fn) := (106, F_spec_l17Oid) :: fns_184
theorem g_106 : Good Try.prog ⟨tis, fns_106⟩ := g_184.cons m_spec_l17Oid
noncomputable def spec_DrawNamed (code0 : List Int) : Option (Bridge × List Int) :=
  (spec_l1New code0).bind fun t7 =>
  (spec_l11Draw t7).bind fun t9 =>
  (spec_l17Oid t9.1 t9.2).bind fun t13 =>
  some (t9.2, t13.2)
noncomputable def F_spec_DrawNamed : Fn := ⟨[.val false (.one (.sl (.one (.int .u8)))) false], [.val true cBridge false, .val false (.one (.sl (.one (.int .i64)))) false], fun a => spec_DrawNamed a⟩
def a_spec_DrawNamed : List (Nat × LoopAnn) := []
theorem e_spec_DrawNamed : fnDen ⟨tis, fns_106⟩ a_spec_DrawNamed Try.f36 (codeOf Try.f36) [.val false (.one (.sl (.one (.int .u8)))) false] [.val true cBridge false, .val false (.one (.sl (.one (.int .i64)))) false] = fun a => spec_DrawNamed a := by kernel_rfl
theorem m_spec_DrawNamed : Meets Try.prog 36 F_spec_DrawNamed := by
  have h := meets_of (ann := a_spec_DrawNamed) (ps := [.val false (.one (.sl (.one (.int .u8)))) false]) (rs := [.val true cBridge false, .val false (.one (.sl (.one (.int .i64)))) false]) g_106 mixed Try.func36 (by kernel_rfl) (by kernel_rfl : Try.f36.body = some (codeOf Try.f36))
  rw [e_spec_DrawNamed] at h
  exact h
noncomputable def fns_36 : List (FuncId × Fn) := (36, F_spec_DrawNamed) :: fns_106
theorem g_36 : Good Try.prog ⟨tis, fns_36⟩ := g_106.cons m_spec_DrawNamed
noncomputable def impl_in (n0 : Int) (low1 : Int) (high2 : Int) : Option Bool :=
  (cond (decide (n0 ≥ low1)) (some (decide (n0 ≤ high2))) (some false)).bind fun t14 =>
  some t14
noncomputable def F_impl_in : Fn := ⟨[.val false (.one (.int .i64)) false, .val false (.one (.int .i64)) false, .val false (.one (.int .i64)) false], [.val false (.one .bool) true], fun a => impl_in a.1 a.2.1 a.2.2⟩
def a_impl_in : List (Nat × LoopAnn) := []
theorem e_impl_in : fnDen ⟨tis, fns_36⟩ a_impl_in Try.f54 (codeOf Try.f54) [.val false (.one (.int .i64)) false, .val false (.one (.int .i64)) false, .val false (.one (.int .i64)) false] [.val false (.one .bool) true] = fun a => impl_in a.1 a.2.1 a.2.2 := by kernel_rfl
theorem m_impl_in : Meets Try.prog 54 F_impl_in := by
  have h := meets_of (ann := a_impl_in) (ps := [.val false (.one (.int .i64)) false, .val false (.one (.int .i64)) false, .val false (.one (.int .i64)) false]) (rs := [.val false (.one .bool) true]) g_36 mixed Try.func54 (by kernel_rfl) (by kernel_rfl : Try.f54.body = some (codeOf Try.f54))
  rw [e_impl_in] at h
  exact h
noncomputable def fns_54 : List (FuncId × Fn) := (54, F_impl_in) :: fns_36
theorem g_54 : Good Try.prog ⟨tis, fns_54⟩ := g_36.cons m_impl_in
noncomputable def impl_allPorts (ports0 : Int) : Option Int :=
  (shl .i64 1 ports0).bind fun t4 =>
  some (w64 (t4 - 1))
noncomputable def F_impl_allPorts : Fn := ⟨[.val false (.one (.int .i64)) false], [.val false (.one (.int .i64)) true], fun a => impl_allPorts a⟩
def a_impl_allPorts : List (Nat × LoopAnn) := []
theorem e_impl_allPorts : fnDen ⟨tis, fns_54⟩ a_impl_allPorts Try.f127 (codeOf Try.f127) [.val false (.one (.int .i64)) false] [.val false (.one (.int .i64)) true] = fun a => impl_allPorts a := by kernel_rfl
theorem m_impl_allPorts : Meets Try.prog 127 F_impl_allPorts := by
  have h := meets_of (ann := a_impl_allPorts) (ps := [.val false (.one (.int .i64)) false]) (rs := [.val false (.one (.int .i64)) true]) g_54 mixed Try.func127 (by kernel_rfl) (by kernel_rfl : Try.f127.body = some (codeOf Try.f127))
  rw [e_impl_allPorts] at h
  exact h
noncomputable def fns_127 : List (FuncId × Fn) := (127, F_impl_allPorts) :: fns_54
theorem g_127 : Good Try.prog ⟨tis, fns_127⟩ := g_54.cons m_impl_allPorts
noncomputable def impl_RowAt_l0 (v0 : Vtab) (id1 : Int) (t10 : Int) : Option (Int ⊕ (Unit ⊕ Int)) :=
  cond (decide (t10 < (v0.1.length : Int)))
    ((at? v0.1 t10).bind fun x13 =>
    cond (x13.1 == id1) (some (.inr (.inr t10))) (some (.inl (w64 (t10 + 1)))))
    (some (.inr (.inl ())))
noncomputable def impl_RowAt (v0 : Vtab) (id1 : Int) : Option Int :=
  (loop (fun z => impl_RowAt_l0 v0 id1 z) 0).bind (Sum.elim (fun d =>
    some (-1)) (fun r => some r))
noncomputable def F_impl_RowAt : Fn := ⟨[.val true cVtab false, .val false (.one (.int .i64)) false], [.val false (.one (.int .i64)) true], fun a => impl_RowAt a.1 a.2⟩
def a_impl_RowAt : List (Nat × LoopAnn) := [(0, ⟨⟨[(10, false, [.dat (.int .i64)])], []⟩,
    ⟨[], []⟩, some ⟨[(4, false, [.dat (.int .i64)])], []⟩⟩)]
theorem e_impl_RowAt : fnDen ⟨tis, fns_127⟩ a_impl_RowAt Try.f137 (codeOf Try.f137) [.val true cVtab false, .val false (.one (.int .i64)) false] [.val false (.one (.int .i64)) true] = fun a => impl_RowAt a.1 a.2 := by kernel_rfl
theorem m_impl_RowAt : Meets Try.prog 137 F_impl_RowAt := by
  have h := meets_of (ann := a_impl_RowAt) (ps := [.val true cVtab false, .val false (.one (.int .i64)) false]) (rs := [.val false (.one (.int .i64)) true]) g_127 mixed Try.func137 (by kernel_rfl) (by kernel_rfl : Try.f137.body = some (codeOf Try.f137))
  rw [e_impl_RowAt] at h
  exact h
noncomputable def fns_137 : List (FuncId × Fn) := (137, F_impl_RowAt) :: fns_127
theorem g_137 : Good Try.prog ⟨tis, fns_137⟩ := g_127.cons m_impl_RowAt
noncomputable def impl_VtabOk_l0 (p0 : Vtab) (i1 : Int) (t28 : Int) : Option (Int ⊕ (Unit ⊕ Bool)) :=
  cond (decide (t28 < (p0.1.length : Int)))
    ((at? p0.1 t28).bind fun x31 =>
    (impl_in x31.1 1 99).bind fun t35 =>
    (cond (!t35)
      (some true)
      ((cond (decide (t28 > 0))
        ((at? p0.1 (w64 (t28 - 1))).bind fun x45 =>
        some (decide (x45.1 ≥ x31.1)))
        (some false)).bind fun t51 =>
      some t51)).bind fun t52 =>
    (cond t52
      (some true)
      ((impl_allPorts i1).bind fun t57 =>
      (impl_in x31.2.1 0 t57).bind fun t58 =>
      some (!t58))).bind fun t60 =>
    (cond t60 (some true) (some ((bclr .i64 x31.2.2 x31.2.1) != 0))).bind fun t68 =>
    cond t68 (some (.inr (.inr false))) (some (.inl (w64 (t28 + 1)))))
    (some (.inr (.inl ())))
noncomputable def impl_VtabOk_l2 (p0 : Vtab) (t73 : Int) : Option (Int ⊕ (Unit ⊕ Bool)) :=
  cond (decide (t73 < (p0.2.length : Int)))
    ((at? p0.2 t73).bind fun x75 =>
    (impl_RowAt p0 x75).bind fun t79 =>
    cond (decide (t79 < 0)) (some (.inr (.inr false))) (some (.inl (w64 (t73 + 1)))))
    (some (.inr (.inl ())))
noncomputable def impl_VtabOk (p0 : Vtab) (i1 : Int) : Option Bool :=
  (impl_in i1 1 6).bind fun t10 =>
  (cond (!t10) (some true) (some ((p0.2.length : Int) != i1))).bind fun t18 =>
  (cond t18 (some true) (some (decide ((p0.1.length : Int) > 6)))).bind fun t24 =>
  cond t24
    (some false)
    ((loop (fun z => impl_VtabOk_l0 p0 i1 z) 0).bind (Sum.elim (fun d =>
      (loop (fun z => impl_VtabOk_l2 p0 z) 0).bind (Sum.elim (fun d_1 =>
        some true) (fun r => some r))) (fun r_1 => some r_1)))
noncomputable def F_impl_VtabOk : Fn := ⟨[.val true cVtab false, .val false (.one (.int .i64)) false], [.val false (.one .bool) true], fun a => impl_VtabOk a.1 a.2⟩
def a_impl_VtabOk : List (Nat × LoopAnn) := [(0, ⟨⟨[(28, false, [.dat (.int .i64)]), (38, false, [.undef]), (39, false, [.undef]), (40, false, [.undef]), (41, false, [.undef]), (42, false, [.undef]), (43, false, [.undef]), (44, false, [.undef]), (45, false, [.undef]), (46, false, [.undef]), (47, false, [.undef]), (48, false, [.undef]), (49, false, [.undef]), (50, false, [.undef]), (51, false, [.undef]), (54, false, [.undef]), (55, false, [.undef]), (56, false, [.undef]), (57, false, [.undef]), (58, false, [.undef]), (59, false, [.undef]), (62, false, [.undef]), (63, false, [.undef]), (64, false, [.undef]), (65, false, [.undef]), (66, false, [.undef]), (67, false, [.undef])], []⟩,
    ⟨[], []⟩, some ⟨[(4, false, [.dat .bool])], []⟩⟩),
  (2, ⟨⟨[(73, false, [.dat (.int .i64)])], []⟩,
    ⟨[], []⟩, some ⟨[(4, false, [.dat .bool])], []⟩⟩)]
theorem e_impl_VtabOk : fnDen ⟨tis, fns_137⟩ a_impl_VtabOk Try.f61 (codeOf Try.f61) [.val true cVtab false, .val false (.one (.int .i64)) false] [.val false (.one .bool) true] = fun a => impl_VtabOk a.1 a.2 := by kernel_rfl
theorem m_impl_VtabOk : Meets Try.prog 61 F_impl_VtabOk := by
  have h := meets_of (ann := a_impl_VtabOk) (ps := [.val true cVtab false, .val false (.one (.int .i64)) false]) (rs := [.val false (.one .bool) true]) g_137 mixed Try.func61 (by kernel_rfl) (by kernel_rfl : Try.f61.body = some (codeOf Try.f61))
  rw [e_impl_VtabOk] at h
  exact h
noncomputable def fns_61 : List (FuncId × Fn) := (61, F_impl_VtabOk) :: fns_137
theorem g_61 : Good Try.prog ⟨tis, fns_61⟩ := g_137.cons m_impl_VtabOk
noncomputable def impl_VecOk (v0 : Vec) : Option Bool :=
  (impl_in v0.1 1 99).bind fun t5 =>
  (cond t5
    ((impl_in v0.2.1 0 100000).bind fun t9 =>
    some t9)
    (some false)).bind fun t10 =>
  (cond t10
    ((impl_in v0.2.2.1 0 10).bind fun t14 =>
    some t14)
    (some false)).bind fun t15 =>
  (cond t15
    ((impl_in v0.2.2.2.1 1 99).bind fun t19 =>
    some t19)
    (some false)).bind fun t20 =>
  (cond t20
    ((impl_in v0.2.2.2.2 0 7).bind fun t24 =>
    some t24)
    (some false)).bind fun t25 =>
  some t25
noncomputable def F_impl_VecOk : Fn := ⟨[.val true cVec false], [.val false (.one .bool) true], fun a => impl_VecOk a⟩
def a_impl_VecOk : List (Nat × LoopAnn) := []
theorem e_impl_VecOk : fnDen ⟨tis, fns_61⟩ a_impl_VecOk Try.f168 (codeOf Try.f168) [.val true cVec false] [.val false (.one .bool) true] = fun a => impl_VecOk a := by kernel_rfl
theorem m_impl_VecOk : Meets Try.prog 168 F_impl_VecOk := by
  have h := meets_of (ann := a_impl_VecOk) (ps := [.val true cVec false]) (rs := [.val false (.one .bool) true]) g_61 mixed Try.func168 (by kernel_rfl) (by kernel_rfl : Try.f168.body = some (codeOf Try.f168))
  rw [e_impl_VecOk] at h
  exact h
noncomputable def fns_168 : List (FuncId × Fn) := (168, F_impl_VecOk) :: fns_61
theorem g_168 : Good Try.prog ⟨tis, fns_168⟩ := g_61.cons m_impl_VecOk
noncomputable def impl_PtOk (p0 : Pt) : Option Bool :=
  (impl_in p0.2.1 1 1000).bind fun t5 =>
  (cond (!t5)
    (some true)
    ((cond p0.2.2.1 (some (!p0.1)) (some false)).bind fun t14 =>
    some t14)).bind fun t15 =>
  cond t15
    (some false)
    (cond p0.2.2.1
      ((impl_VecOk p0.2.2.2).bind fun t20 =>
      some t20)
      (let t2 := p0.2.2.2.1 == 0 && (p0.2.2.2.2.1 == 0 && (p0.2.2.2.2.2.1 == 0 && (p0.2.2.2.2.2.2.1 == 0 && (p0.2.2.2.2.2.2.2 == 0))))
      some t2))
noncomputable def F_impl_PtOk : Fn := ⟨[.val true cPt false], [.val false (.one .bool) true], fun a => impl_PtOk a⟩
def a_impl_PtOk : List (Nat × LoopAnn) := []
theorem e_impl_PtOk : fnDen ⟨tis, fns_168⟩ a_impl_PtOk Try.f131 (codeOf Try.f131) [.val true cPt false] [.val false (.one .bool) true] = fun a => impl_PtOk a := by kernel_rfl
theorem m_impl_PtOk : Meets Try.prog 131 F_impl_PtOk := by
  have h := meets_of (ann := a_impl_PtOk) (ps := [.val true cPt false]) (rs := [.val false (.one .bool) true]) g_168 mixed Try.func131 (by kernel_rfl) (by kernel_rfl : Try.f131.body = some (codeOf Try.f131))
  rw [e_impl_PtOk] at h
  exact h
noncomputable def fns_131 : List (FuncId × Fn) := (131, F_impl_PtOk) :: fns_168
theorem g_131 : Good Try.prog ⟨tis, fns_131⟩ := g_168.cons m_impl_PtOk
noncomputable def impl_fentOk (e0 : Fent) : Option Bool :=
  (impl_in e0.1 1 99).bind fun t5 =>
  (cond t5
    ((impl_in e0.2.1 1 9999).bind fun t9 =>
    some t9)
    (some false)).bind fun t10 =>
  (cond t10
    ((impl_in e0.2.2.1 0 7).bind fun t14 =>
    some t14)
    (some false)).bind fun t15 =>
  (cond t15
    ((impl_in e0.2.2.2.1 0 4).bind fun t19 =>
    some t19)
    (some false)).bind fun t20 =>
  (cond t20
    ((cond (!e0.2.2.2.2) (some true) (some (e0.2.2.2.1 == 0))).bind fun t29 =>
    some t29)
    (some false)).bind fun t30 =>
  some t30
noncomputable def F_impl_fentOk : Fn := ⟨[.val true cFent false], [.val false (.one .bool) true], fun a => impl_fentOk a⟩
def a_impl_fentOk : List (Nat × LoopAnn) := []
theorem e_impl_fentOk : fnDen ⟨tis, fns_131⟩ a_impl_fentOk Try.f139 (codeOf Try.f139) [.val true cFent false] [.val false (.one .bool) true] = fun a => impl_fentOk a := by kernel_rfl
theorem m_impl_fentOk : Meets Try.prog 139 F_impl_fentOk := by
  have h := meets_of (ann := a_impl_fentOk) (ps := [.val true cFent false]) (rs := [.val false (.one .bool) true]) g_131 mixed Try.func139 (by kernel_rfl) (by kernel_rfl : Try.f139.body = some (codeOf Try.f139))
  rw [e_impl_fentOk] at h
  exact h
noncomputable def fns_139 : List (FuncId × Fn) := (139, F_impl_fentOk) :: fns_131
theorem g_139 : Good Try.prog ⟨tis, fns_139⟩ := g_131.cons m_impl_fentOk
noncomputable def impl_behind (e0 : Fent) (tag1 : Int) (mac2 : Int) : Option Bool :=
  (cond (decide (e0.1 > tag1))
    (some true)
    ((cond (e0.1 == tag1) (some (decide (e0.2.1 > mac2))) (some false)).bind fun t21 =>
    some t21)).bind fun t22 =>
  some t22
noncomputable def F_impl_behind : Fn := ⟨[.val true cFent false, .val false (.one (.int .i64)) false, .val false (.one (.int .i64)) false], [.val false (.one .bool) true], fun a => impl_behind a.1 a.2.1 a.2.2⟩
def a_impl_behind : List (Nat × LoopAnn) := []
theorem e_impl_behind : fnDen ⟨tis, fns_139⟩ a_impl_behind Try.f197 (codeOf Try.f197) [.val true cFent false, .val false (.one (.int .i64)) false, .val false (.one (.int .i64)) false] [.val false (.one .bool) true] = fun a => impl_behind a.1 a.2.1 a.2.2 := by kernel_rfl
theorem m_impl_behind : Meets Try.prog 197 F_impl_behind := by
  have h := meets_of (ann := a_impl_behind) (ps := [.val true cFent false, .val false (.one (.int .i64)) false, .val false (.one (.int .i64)) false]) (rs := [.val false (.one .bool) true]) g_139 mixed Try.func197 (by kernel_rfl) (by kernel_rfl : Try.f197.body = some (codeOf Try.f197))
  rw [e_impl_behind] at h
  exact h
noncomputable def fns_197 : List (FuncId × Fn) := (197, F_impl_behind) :: fns_139
theorem g_197 : Good Try.prog ⟨tis, fns_197⟩ := g_139.cons m_impl_behind
noncomputable def impl_FdbOk_l0 (l0 : List Fent) (t7 : Int) : Option (Int ⊕ (Unit ⊕ Bool)) :=
  cond (decide (t7 < (l0.length : Int)))
    ((at? l0 t7).bind fun x10 =>
    (impl_fentOk x10).bind fun t13 =>
    (cond (!t13)
      (some true)
      ((cond (decide (t7 > 0))
        ((at? l0 (w64 (t7 - 1))).bind fun x23 =>
        (at? l0 (w64 (t7 - 1))).bind fun x29 =>
        (impl_behind x10 x23.1 x29.2.1).bind fun t32 =>
        some (!t32))
        (some false)).bind fun t34 =>
      some t34)).bind fun t35 =>
    cond t35 (some (.inr (.inr false))) (some (.inl (w64 (t7 + 1)))))
    (some (.inr (.inl ())))
noncomputable def impl_FdbOk (l0 : List Fent) : Option Bool :=
  (loop (fun z => impl_FdbOk_l0 l0 z) 0).bind (Sum.elim (fun d =>
    let t2 := decide ((l0.length : Int) ≤ 12)
    some t2) (fun r => some r))
noncomputable def F_impl_FdbOk : Fn := ⟨[.val false (.one (.sl cFent)) false], [.val false (.one .bool) true], fun a => impl_FdbOk a⟩
def a_impl_FdbOk : List (Nat × LoopAnn) := [(0, ⟨⟨[(7, false, [.dat (.int .i64)]), (16, false, [.undef]), (17, false, [.undef]), (18, false, [.undef]), (19, false, [.undef]), (20, false, [.undef]), (21, false, [.undef]), (22, false, [.undef]), (23, false, [.undef]), (24, false, [.undef]), (25, false, [.undef]), (26, false, [.undef]), (27, false, [.undef]), (28, false, [.undef]), (29, false, [.undef]), (30, false, [.undef]), (31, false, [.undef]), (32, false, [.undef]), (33, false, [.undef]), (34, false, [.undef])], []⟩,
    ⟨[], []⟩, some ⟨[(2, false, [.dat .bool])], []⟩⟩)]
theorem e_impl_FdbOk : fnDen ⟨tis, fns_197⟩ a_impl_FdbOk Try.f132 (codeOf Try.f132) [.val false (.one (.sl cFent)) false] [.val false (.one .bool) true] = fun a => impl_FdbOk a := by kernel_rfl
theorem m_impl_FdbOk : Meets Try.prog 132 F_impl_FdbOk := by
  have h := meets_of (ann := a_impl_FdbOk) (ps := [.val false (.one (.sl cFent)) false]) (rs := [.val false (.one .bool) true]) g_197 mixed Try.func132 (by kernel_rfl) (by kernel_rfl : Try.f132.body = some (codeOf Try.f132))
  rw [e_impl_FdbOk] at h
  exact h
noncomputable def fns_132 : List (FuncId × Fn) := (132, F_impl_FdbOk) :: fns_197
theorem g_132 : Good Try.prog ⟨tis, fns_132⟩ := g_197.cons m_impl_FdbOk
noncomputable def impl_isCount (n0 : Int) : Option Bool :=
  (impl_in n0 0 1000000).bind fun t4 =>
  some t4
noncomputable def F_impl_isCount : Fn := ⟨[.val false (.one (.int .i64)) false], [.val false (.one .bool) true], fun a => impl_isCount a⟩
def a_impl_isCount : List (Nat × LoopAnn) := []
theorem e_impl_isCount : fnDen ⟨tis, fns_132⟩ a_impl_isCount Try.f133 (codeOf Try.f133) [.val false (.one (.int .i64)) false] [.val false (.one .bool) true] = fun a => impl_isCount a := by kernel_rfl
theorem m_impl_isCount : Meets Try.prog 133 F_impl_isCount := by
  have h := meets_of (ann := a_impl_isCount) (ps := [.val false (.one (.int .i64)) false]) (rs := [.val false (.one .bool) true]) g_132 mixed Try.func133 (by kernel_rfl) (by kernel_rfl : Try.f133.body = some (codeOf Try.f133))
  rw [e_impl_isCount] at h
  exact h
noncomputable def fns_133 : List (FuncId × Fn) := (133, F_impl_isCount) :: fns_132
theorem g_133 : Good Try.prog ⟨tis, fns_133⟩ := g_132.cons m_impl_isCount
noncomputable def impl_BridgeOk_l0 (p0 : Bridge) (t8 : Int) : Option (Int ⊕ (Unit ⊕ Bool)) :=
  cond (decide (t8 < (p0.2.2.1.length : Int)))
    ((at? p0.2.2.1 t8).bind fun x10 =>
    (impl_PtOk x10).bind fun t13 =>
    cond (!t13) (some (.inr (.inr false))) (some (.inl (w64 (t8 + 1)))))
    (some (.inr (.inl ())))
noncomputable def impl_BridgeOk (p0 : Bridge) : Option Bool :=
  (loop (fun z => impl_BridgeOk_l0 p0 z) 0).bind (Sum.elim (fun d =>
    (impl_in p0.1 1 99).bind fun t18 =>
    (cond (!t18) (some true) (some (decide ((p0.2.1.length : Int) > 10)))).bind fun t25 =>
    (cond t25
      (some true)
      ((impl_in (p0.2.2.1.length : Int) 1 6).bind fun t30 =>
      some (!t30))).bind fun t32 =>
    (cond t32
      (some true)
      ((impl_FdbOk p0.2.2.2.1).bind fun t36 =>
      some (!t36))).bind fun t38 =>
    (cond t38
      (some true)
      ((impl_VtabOk (p0.2.2.2.2.1, p0.2.2.2.2.2.1) (p0.2.2.1.length : Int)).bind fun t45 =>
      some (!t45))).bind fun t47 =>
    cond t47
      (some false)
      ((impl_isCount p0.2.2.2.2.2.2.1).bind fun t50 =>
      (cond t50
        ((impl_isCount p0.2.2.2.2.2.2.2.1).bind fun t54 =>
        some t54)
        (some false)).bind fun t55 =>
      (cond t55
        ((impl_isCount p0.2.2.2.2.2.2.2.2.1).bind fun t59 =>
        some t59)
        (some false)).bind fun t60 =>
      (cond t60
        ((impl_isCount p0.2.2.2.2.2.2.2.2.2.1).bind fun t64 =>
        some t64)
        (some false)).bind fun t65 =>
      (cond t65
        ((impl_isCount p0.2.2.2.2.2.2.2.2.2.2).bind fun t69 =>
        some t69)
        (some false)).bind fun t70 =>
      some t70)) (fun r => some r))
noncomputable def F_impl_BridgeOk : Fn := ⟨[.val true cBridge false], [.val false (.one .bool) true], fun a => impl_BridgeOk a⟩
def a_impl_BridgeOk : List (Nat × LoopAnn) := [(0, ⟨⟨[(8, false, [.dat (.int .i64)])], []⟩,
    ⟨[], []⟩, some ⟨[(2, false, [.dat .bool])], []⟩⟩)]
theorem e_impl_BridgeOk : fnDen ⟨tis, fns_133⟩ a_impl_BridgeOk Try.f59 (codeOf Try.f59) [.val true cBridge false] [.val false (.one .bool) true] = fun a => impl_BridgeOk a := by kernel_rfl
theorem m_impl_BridgeOk : Meets Try.prog 59 F_impl_BridgeOk := by
  have h := meets_of (ann := a_impl_BridgeOk) (ps := [.val true cBridge false]) (rs := [.val false (.one .bool) true]) g_133 mixed Try.func59 (by kernel_rfl) (by kernel_rfl : Try.f59.body = some (codeOf Try.f59))
  rw [e_impl_BridgeOk] at h
  exact h
noncomputable def fns_59 : List (FuncId × Fn) := (59, F_impl_BridgeOk) :: fns_133
theorem g_59 : Good Try.prog ⟨tis, fns_59⟩ := g_133.cons m_impl_BridgeOk
noncomputable def impl_thing (v0 : Val) (name1 : List Int) : Option Bind :=
  (app ([1, 3, 1] : List Int) name1).bind fun zs7 =>
  some (zs7, v0.1, v0.2.1, v0.2.2.1, v0.2.2.2)
noncomputable def F_impl_thing : Fn := ⟨[.val true cVal false, .val false (.one (.sl (.one (.int .i64)))) false], [.val true cBind false], fun a => impl_thing a.1 a.2⟩
def a_impl_thing : List (Nat × LoopAnn) := []
theorem e_impl_thing : fnDen ⟨tis, fns_59⟩ a_impl_thing Try.f107 (codeOf Try.f107) [.val true cVal false, .val false (.one (.sl (.one (.int .i64)))) false] [.val true cBind false] = fun a => impl_thing a.1 a.2 := by kernel_rfl
theorem m_impl_thing : Meets Try.prog 107 F_impl_thing := by
  have h := meets_of (ann := a_impl_thing) (ps := [.val true cVal false, .val false (.one (.sl (.one (.int .i64)))) false]) (rs := [.val true cBind false]) g_59 mixed Try.func107 (by kernel_rfl) (by kernel_rfl : Try.f107.body = some (codeOf Try.f107))
  rw [e_impl_thing] at h
  exact h
noncomputable def fns_107 : List (FuncId × Fn) := (107, F_impl_thing) :: fns_59
theorem g_107 : Good Try.prog ⟨tis, fns_107⟩ := g_59.cons m_impl_thing
noncomputable def impl_number (n0 : Int) : Option Val :=
  some (2, n0, [], [])
noncomputable def F_impl_number : Fn := ⟨[.val false (.one (.int .i64)) false], [.val true cVal true], fun a => impl_number a⟩
def a_impl_number : List (Nat × LoopAnn) := []
theorem e_impl_number : fnDen ⟨tis, fns_107⟩ a_impl_number Try.f108 (codeOf Try.f108) [.val false (.one (.int .i64)) false] [.val true cVal true] = fun a => impl_number a := by kernel_rfl
theorem m_impl_number : Meets Try.prog 108 F_impl_number := by
  have h := meets_of (ann := a_impl_number) (ps := [.val false (.one (.int .i64)) false]) (rs := [.val true cVal true]) g_107 mixed Try.func108 (by kernel_rfl) (by kernel_rfl : Try.f108.body = some (codeOf Try.f108))
  rw [e_impl_number] at h
  exact h
noncomputable def fns_108 : List (FuncId × Fn) := (108, F_impl_number) :: fns_107
theorem g_108 : Good Try.prog ⟨tis, fns_108⟩ := g_107.cons m_impl_number
noncomputable def impl_LessVec (a0 : Vec) (b1 : Vec) : Option Bool :=
  cond (a0.1 != b1.1)
    (some (decide (a0.1 < b1.1)))
    (cond (a0.2.1 != b1.2.1)
      (some (decide (a0.2.1 < b1.2.1)))
      (cond (a0.2.2.2.1 != b1.2.2.2.1)
        (let t4 := decide (a0.2.2.2.1 < b1.2.2.2.1)
        some t4)
        (let t4_1 := decide (a0.2.2.2.2 < b1.2.2.2.2)
        some t4_1)))
noncomputable def F_impl_LessVec : Fn := ⟨[.val true cVec false, .val true cVec false], [.val false (.one .bool) true], fun a => impl_LessVec a.1 a.2⟩
def a_impl_LessVec : List (Nat × LoopAnn) := []
theorem e_impl_LessVec : fnDen ⟨tis, fns_108⟩ a_impl_LessVec Try.f153 (codeOf Try.f153) [.val true cVec false, .val true cVec false] [.val false (.one .bool) true] = fun a => impl_LessVec a.1 a.2 := by kernel_rfl
theorem m_impl_LessVec : Meets Try.prog 153 F_impl_LessVec := by
  have h := meets_of (ann := a_impl_LessVec) (ps := [.val true cVec false, .val true cVec false]) (rs := [.val false (.one .bool) true]) g_108 mixed Try.func153 (by kernel_rfl) (by kernel_rfl : Try.f153.body = some (codeOf Try.f153))
  rw [e_impl_LessVec] at h
  exact h
noncomputable def fns_153 : List (FuncId × Fn) := (153, F_impl_LessVec) :: fns_108
theorem g_153 : Good Try.prog ⟨tis, fns_153⟩ := g_108.cons m_impl_LessVec
noncomputable def impl_StepVec (v0 : Vec) (cost1 : Int) : Option (Vec × Bool) :=
  (impl_VecOk v0).bind fun t8 =>
  (cond (!t8)
    (some true)
    ((impl_in cost1 1 1000).bind fun t12 =>
    some (!t12))).bind fun t14 =>
  cond t14
    (some (v0, false))
    ((impl_VecOk (v0.1, w64 (v0.2.1 + cost1), w64 (v0.2.2.1 + 1), v0.2.2.2.1, v0.2.2.2.2)).bind fun t27 =>
    cond (!t27)
      (some (v0, false))
      (some ((v0.1, w64 (v0.2.1 + cost1), w64 (v0.2.2.1 + 1), v0.2.2.2.1, v0.2.2.2.2), true)))
noncomputable def F_impl_StepVec : Fn := ⟨[.val true cVec false, .val false (.one (.int .i64)) false], [.val true cVec true, .val false (.one .bool) true], fun a => impl_StepVec a.1 a.2⟩
def a_impl_StepVec : List (Nat × LoopAnn) := []
theorem e_impl_StepVec : fnDen ⟨tis, fns_153⟩ a_impl_StepVec Try.f203 (codeOf Try.f203) [.val true cVec false, .val false (.one (.int .i64)) false] [.val true cVec true, .val false (.one .bool) true] = fun a => impl_StepVec a.1 a.2 := by kernel_rfl
theorem m_impl_StepVec : Meets Try.prog 203 F_impl_StepVec := by
  have h := meets_of (ann := a_impl_StepVec) (ps := [.val true cVec false, .val false (.one (.int .i64)) false]) (rs := [.val true cVec true, .val false (.one .bool) true]) g_153 mixed Try.func203 (by kernel_rfl) (by kernel_rfl : Try.f203.body = some (codeOf Try.f203))
  rw [e_impl_StepVec] at h
  exact h
noncomputable def fns_203 : List (FuncId × Fn) := (203, F_impl_StepVec) :: fns_153
theorem g_203 : Good Try.prog ⟨tis, fns_203⟩ := g_153.cons m_impl_StepVec
noncomputable def impl_BestVec_l0 (p0 : Int) (i1 : List Pt) (t7 : Int) (t18 : Int) (b0 : Int) (b1 : Int) (b2 : Int) (b3 : Int) (b4 : Int) (b0_1 : Int) (b1_1 : Int) (b2_1 : Int) (b3_1 : Int) (b4_1 : Int) : Option ((Int × Int × Int × Int × Int × Int × Int × Int × Int × Int × Int × Int) ⊕ (Int × Int × Int × Int × Int × Int × Int × Int × Int × Int × Int)) :=
  cond (decide (t18 < (i1.length : Int)))
    ((at? i1 t18).bind fun x21 =>
    (cond (!x21.1) (some true) (some (!x21.2.2.1))).bind fun t30 =>
    cond t30
      (some (.inl (t7, w64 (t18 + 1), b0, b1, b2, b3, b4, b0_1, b1_1, b2_1, b3_1, b4_1)))
      ((impl_StepVec x21.2.2.2 x21.2.1).bind fun t36 =>
      (cond t36.2 (some (decide (t36.1.1 < p0))) (some false)).bind fun t45 =>
      (cond t45
        ((cond (decide (t7 < 0))
          (some true)
          ((impl_LessVec t36.1 (b0_1, b1_1, b2_1, b3_1, b4_1)).bind fun t52 =>
          some t52)).bind fun t53 =>
        some t53)
        (some false)).bind fun t54 =>
      cond t54
        (some (.inl (t18, w64 (t18 + 1), t36.1.1, t36.1.2.1, t36.1.2.2.1, p0, 0, t36.1.1, t36.1.2.1, t36.1.2.2.1, t36.1.2.2.2.1, t36.1.2.2.2.2)))
        (some (.inl (t7, w64 (t18 + 1), b0, b1, b2, b3, b4, b0_1, b1_1, b2_1, b3_1, b4_1)))))
    (some (.inr (t7, b0, b1, b2, b3, b4, b0_1, b1_1, b2_1, b3_1, b4_1)))
noncomputable def impl_BestVec (p0 : Int) (i1 : List Pt) : Option (Vec × Int) :=
  (loop (fun z => impl_BestVec_l0 p0 i1 z.1 z.2.1 z.2.2.1 z.2.2.2.1 z.2.2.2.2.1 z.2.2.2.2.2.1 z.2.2.2.2.2.2.1 z.2.2.2.2.2.2.2.1 z.2.2.2.2.2.2.2.2.1 z.2.2.2.2.2.2.2.2.2.1 z.2.2.2.2.2.2.2.2.2.2.1 z.2.2.2.2.2.2.2.2.2.2.2) ((-1), 0, p0, 0, 0, p0, 0, 0, 0, 0, 0, 0)).bind fun d =>
  some ((d.2.1, d.2.2.1, d.2.2.2.1, d.2.2.2.2.1, d.2.2.2.2.2.1), d.1)
noncomputable def F_impl_BestVec : Fn := ⟨[.val false (.one (.int .i64)) false, .val false (.one (.sl cPt)) false], [.val true cVec true, .val false (.one (.int .i64)) true], fun a => impl_BestVec a.1 a.2⟩
def a_impl_BestVec : List (Nat × LoopAnn) := [(0, ⟨⟨[(7, false, [.dat (.int .i64)]), (18, false, [.dat (.int .i64)]), (27, false, [.undef]), (28, false, [.undef]), (29, false, [.undef]), (41, false, [.undef]), (42, false, [.undef]), (43, false, [.undef]), (44, false, [.undef]), (47, false, [.undef]), (48, false, [.undef]), (49, false, [.undef]), (50, false, [.undef]), (51, false, [.undef]), (52, false, [.undef]), (53, false, [.undef])], [(266240, .box [.dat (.int .i64), .dat (.int .i64), .dat (.int .i64), .dat (.int .i64), .dat (.int .i64)]), (525312, .box [.dat (.int .i64), .dat (.int .i64), .dat (.int .i64), .dat (.int .i64), .dat (.int .i64)])]⟩,
    ⟨[(7, false, [.dat (.int .i64)])], [(266240, .box [.dat (.int .i64), .dat (.int .i64), .dat (.int .i64), .dat (.int .i64), .dat (.int .i64)]), (525312, .box [.dat (.int .i64), .dat (.int .i64), .dat (.int .i64), .dat (.int .i64), .dat (.int .i64)])]⟩, none⟩)]
theorem e_impl_BestVec : fnDen ⟨tis, fns_203⟩ a_impl_BestVec Try.f152 (codeOf Try.f152) [.val false (.one (.int .i64)) false, .val false (.one (.sl cPt)) false] [.val true cVec true, .val false (.one (.int .i64)) true] = fun a => impl_BestVec a.1 a.2 := by kernel_rfl
theorem m_impl_BestVec : Meets Try.prog 152 F_impl_BestVec := by
  have h := meets_of (ann := a_impl_BestVec) (ps := [.val false (.one (.int .i64)) false, .val false (.one (.sl cPt)) false]) (rs := [.val true cVec true, .val false (.one (.int .i64)) true]) g_203 mixed Try.func152 (by kernel_rfl) (by kernel_rfl : Try.f152.body = some (codeOf Try.f152))
  rw [e_impl_BestVec] at h
  exact h
noncomputable def fns_152 : List (FuncId × Fn) := (152, F_impl_BestVec) :: fns_203
theorem g_152 : Good Try.prog ⟨tis, fns_152⟩ := g_203.cons m_impl_BestVec
noncomputable def impl_SayVec (id0 : Int) (l1 : List Pt) (port2 : Int) : Option Vec :=
  (impl_BestVec id0 l1).bind fun t12 =>
  some (t12.1.1, t12.1.2.1, t12.1.2.2.1, t12.1.2.2.2.1, port2)
noncomputable def F_impl_SayVec : Fn := ⟨[.val false (.one (.int .i64)) false, .val false (.one (.sl cPt)) false, .val false (.one (.int .i64)) false], [.val true cVec true], fun a => impl_SayVec a.1 a.2.1 a.2.2⟩
def a_impl_SayVec : List (Nat × LoopAnn) := []
theorem e_impl_SayVec : fnDen ⟨tis, fns_152⟩ a_impl_SayVec Try.f154 (codeOf Try.f154) [.val false (.one (.int .i64)) false, .val false (.one (.sl cPt)) false, .val false (.one (.int .i64)) false] [.val true cVec true] = fun a => impl_SayVec a.1 a.2.1 a.2.2 := by kernel_rfl
theorem m_impl_SayVec : Meets Try.prog 154 F_impl_SayVec := by
  have h := meets_of (ann := a_impl_SayVec) (ps := [.val false (.one (.int .i64)) false, .val false (.one (.sl cPt)) false, .val false (.one (.int .i64)) false]) (rs := [.val true cVec true]) g_152 mixed Try.func154 (by kernel_rfl) (by kernel_rfl : Try.f154.body = some (codeOf Try.f154))
  rw [e_impl_SayVec] at h
  exact h
noncomputable def fns_154 : List (FuncId × Fn) := (154, F_impl_SayVec) :: fns_152
theorem g_154 : Good Try.prog ⟨tis, fns_154⟩ := g_152.cons m_impl_SayVec
noncomputable def impl_RoleOf (id0 : Int) (l1 : List Pt) (port2 : Int) : Option Int :=
  (impl_in port2 0 (w64 ((l1.length : Int) - 1))).bind fun t13 =>
  (cond (!t13)
    (some true)
    ((at? l1 port2).bind fun x18 =>
    some (!x18.1))).bind fun t22 =>
  cond t22
    (some 4)
    ((impl_BestVec id0 l1).bind fun t26 =>
    cond (t26.2 == port2)
      (some 1)
      ((at? l1 port2).bind fun x36 =>
      (cond (!x36.2.2.1)
        (some true)
        ((impl_SayVec id0 l1 port2).bind fun t44 =>
        (at? l1 port2).bind fun x47 =>
        (impl_LessVec t44 x47.2.2.2).bind fun t50 =>
        some t50)).bind fun t51 =>
      cond t51 (some 2) (some 3)))
noncomputable def F_impl_RoleOf : Fn := ⟨[.val false (.one (.int .i64)) false, .val false (.one (.sl cPt)) false, .val false (.one (.int .i64)) false], [.val false (.one (.int .i64)) true], fun a => impl_RoleOf a.1 a.2.1 a.2.2⟩
def a_impl_RoleOf : List (Nat × LoopAnn) := []
theorem e_impl_RoleOf : fnDen ⟨tis, fns_154⟩ a_impl_RoleOf Try.f79 (codeOf Try.f79) [.val false (.one (.int .i64)) false, .val false (.one (.sl cPt)) false, .val false (.one (.int .i64)) false] [.val false (.one (.int .i64)) true] = fun a => impl_RoleOf a.1 a.2.1 a.2.2 := by kernel_rfl
theorem m_impl_RoleOf : Meets Try.prog 79 F_impl_RoleOf := by
  have h := meets_of (ann := a_impl_RoleOf) (ps := [.val false (.one (.int .i64)) false, .val false (.one (.sl cPt)) false, .val false (.one (.int .i64)) false]) (rs := [.val false (.one (.int .i64)) true]) g_154 mixed Try.func79 (by kernel_rfl) (by kernel_rfl : Try.f79.body = some (codeOf Try.f79))
  rw [e_impl_RoleOf] at h
  exact h
noncomputable def fns_79 : List (FuncId × Fn) := (79, F_impl_RoleOf) :: fns_154
theorem g_79 : Good Try.prog ⟨tis, fns_79⟩ := g_154.cons m_impl_RoleOf
noncomputable def impl_bit (is0 : Bool) : Option Int :=
  cond is0 (some 1) (some 0)
noncomputable def F_impl_bit : Fn := ⟨[.val false (.one .bool) false], [.val false (.one (.int .i64)) true], fun a => impl_bit a⟩
def a_impl_bit : List (Nat × LoopAnn) := []
theorem e_impl_bit : fnDen ⟨tis, fns_79⟩ a_impl_bit Try.f185 (codeOf Try.f185) [.val false (.one .bool) false] [.val false (.one (.int .i64)) true] = fun a => impl_bit a := by kernel_rfl
theorem m_impl_bit : Meets Try.prog 185 F_impl_bit := by
  have h := meets_of (ann := a_impl_bit) (ps := [.val false (.one .bool) false]) (rs := [.val false (.one (.int .i64)) true]) g_79 mixed Try.func185 (by kernel_rfl) (by kernel_rfl : Try.f185.body = some (codeOf Try.f185))
  rw [e_impl_bit] at h
  exact h
noncomputable def fns_185 : List (FuncId × Fn) := (185, F_impl_bit) :: fns_79
theorem g_185 : Good Try.prog ⟨tis, fns_185⟩ := g_79.cons m_impl_bit
noncomputable def impl_portThing (b0 : Bridge) (c1 : Int) (p2 : Int) : Option Int :=
  cond (c1 == 1)
    ((at? b0.2.2.1 p2).bind fun x13 =>
    (impl_bit x13.1).bind fun t16 =>
    some t16)
    (cond (c1 == 2)
      ((at? b0.2.2.1 p2).bind fun x22 =>
      some x22.2.1)
      (cond (c1 == 3)
        ((impl_RoleOf b0.1 b0.2.2.1 p2).bind fun t32 =>
        some t32)
        ((at? b0.2.2.2.2.2.1 p2).bind fun x37 =>
        some x37)))
noncomputable def F_impl_portThing : Fn := ⟨[.val true cBridge false, .val false (.one (.int .i64)) false, .val false (.one (.int .i64)) false], [.val false (.one (.int .i64)) true], fun a => impl_portThing a.1 a.2.1 a.2.2⟩
def a_impl_portThing : List (Nat × LoopAnn) := []
theorem e_impl_portThing : fnDen ⟨tis, fns_185⟩ a_impl_portThing Try.f109 (codeOf Try.f109) [.val true cBridge false, .val false (.one (.int .i64)) false, .val false (.one (.int .i64)) false] [.val false (.one (.int .i64)) true] = fun a => impl_portThing a.1 a.2.1 a.2.2 := by kernel_rfl
theorem m_impl_portThing : Meets Try.prog 109 F_impl_portThing := by
  have h := meets_of (ann := a_impl_portThing) (ps := [.val true cBridge false, .val false (.one (.int .i64)) false, .val false (.one (.int .i64)) false]) (rs := [.val false (.one (.int .i64)) true]) g_185 mixed Try.func109 (by kernel_rfl) (by kernel_rfl : Try.f109.body = some (codeOf Try.f109))
  rw [e_impl_portThing] at h
  exact h
noncomputable def fns_109 : List (FuncId × Fn) := (109, F_impl_portThing) :: fns_185
theorem g_109 : Good Try.prog ⟨tis, fns_109⟩ := g_185.cons m_impl_portThing
noncomputable def impl_MibList_l0 (p0 : Bridge) (t32 : Int) (t3 : List Bind) : Option ((Int × List Bind) ⊕ (List Bind)) :=
  cond (decide (t32 < ([p0.2.2.2.2.2.2.1, p0.2.2.2.2.2.2.2.1, p0.2.2.2.2.2.2.2.2.1, p0.2.2.2.2.2.2.2.2.2.1].length : Int)))
    ((ix [p0.2.2.2.2.2.2.1, p0.2.2.2.2.2.2.2.1, p0.2.2.2.2.2.2.2.2.1, p0.2.2.2.2.2.2.2.2.2.1].length t32).bind fun j35 =>
    ([p0.2.2.2.2.2.2.1, p0.2.2.2.2.2.2.2.1, p0.2.2.2.2.2.2.2.2.1, p0.2.2.2.2.2.2.2.2.2.1][j35]?).bind fun x36 =>
    (impl_number x36).bind fun t39 =>
    (impl_thing t39 [1, w64 (t32 + 2)]).bind fun t43 =>
    (app t3 [t43]).bind fun zs45 =>
    some (.inl (w64 (t32 + 1), zs45)))
    (some (.inr t3))
noncomputable def impl_MibList_l4 (p0 : Bridge) (t6 : Int) (t54 : Int) (t3_3 : List Bind) : Option ((Int × List Bind) ⊕ (List Bind)) :=
  cond (decide (t54 < (p0.2.2.1.length : Int)))
    ((impl_portThing p0 t6 t54).bind fun t61 =>
    (impl_number t61).bind fun t62 =>
    (impl_thing t62 [2, t6, w64 (t54 + 1)]).bind fun t67 =>
    (app t3_3 [t67]).bind fun zs69 =>
    some (.inl (w64 (t54 + 1), zs69)))
    (some (.inr t3_3))
noncomputable def impl_MibList_l2 (p0 : Bridge) (t6 : Int) (t3_2 : List Bind) : Option ((Int × List Bind) ⊕ (List Bind)) :=
  cond (decide (t6 ≤ 4))
    ((loop (fun z => impl_MibList_l4 p0 t6 z.1 z.2) (0, t3_2)).bind fun d_1 =>
    some (.inl (w64 (t6 + 1), d_1)))
    (some (.inr t3_2))
noncomputable def impl_MibList_l8 (p0 : Bridge) (t8 : Int) (t79 : Int) (t3_7 : List Bind) : Option ((Int × List Bind) ⊕ (List Bind)) :=
  cond (decide (t79 < (p0.2.2.2.2.1.length : Int)))
    ((at? p0.2.2.2.2.1 t79).bind fun x81 =>
    (ix [1, x81.2.1, x81.2.2].length (w64 (t8 - 1))).bind fun j91 =>
    ([1, x81.2.1, x81.2.2][j91]?).bind fun x92 =>
    (impl_number x92).bind fun t93 =>
    (impl_thing t93 [3, t8, x81.1]).bind fun t98 =>
    (app t3_7 [t98]).bind fun zs100 =>
    some (.inl (w64 (t79 + 1), zs100)))
    (some (.inr t3_7))
noncomputable def impl_MibList_l6 (p0 : Bridge) (t8 : Int) (t3_6 : List Bind) : Option ((Int × List Bind) ⊕ (List Bind)) :=
  cond (decide (t8 ≤ 3))
    ((loop (fun z => impl_MibList_l8 p0 t8 z.1 z.2) (0, t3_6)).bind fun d_3 =>
    some (.inl (w64 (t8 + 1), d_3)))
    (some (.inr t3_6))
noncomputable def impl_MibList_l10 (p0 : Bridge) (t105 : Int) (t3_10 : List Bind) : Option ((Int × List Bind) ⊕ (List Bind)) :=
  cond (decide (t105 < (p0.2.2.2.1.length : Int)))
    ((at? p0.2.2.2.1 t105).bind fun x107 =>
    (impl_number (w64 (x107.2.2.1 + 1))).bind fun t113 =>
    (impl_thing t113 [4, 1, x107.1, x107.2.1]).bind fun t119 =>
    (app t3_10 [t119]).bind fun zs121 =>
    some (.inl (w64 (t105 + 1), zs121)))
    (some (.inr t3_10))
noncomputable def impl_MibList (p0 : Bridge) : Option (List Bind) :=
  (impl_BridgeOk p0).bind fun t14 =>
  cond (!t14)
    (some [])
    ((impl_thing (4, 0, p0.2.1, []) ([1, 1] : List Int)).bind fun t20 =>
    (loop (fun z => impl_MibList_l0 p0 z.1 z.2) (0, [t20])).bind fun d =>
    (loop (fun z => impl_MibList_l2 p0 z.1 z.2) (1, d)).bind fun d_2 =>
    (loop (fun z => impl_MibList_l6 p0 z.1 z.2) (1, d_2)).bind fun d_4 =>
    (loop (fun z => impl_MibList_l10 p0 z.1 z.2) (0, d_4)).bind fun d_5 =>
    some d_5)
noncomputable def F_impl_MibList : Fn := ⟨[.val true cBridge false], [.val false (.one (.sl cBind)) false], fun a => impl_MibList a⟩
def a_impl_MibList : List (Nat × LoopAnn) := [(0, ⟨⟨[(3, false, [.own 1000000000]), (32, false, [.dat (.int .i64)])], [(1000000000, .root cBind false)]⟩,
    ⟨[(3, false, [.own 1000000300])], [(1000000300, .root cBind false)]⟩, none⟩),
  (2, ⟨⟨[(3, false, [.own 1000002000]), (6, false, [.dat (.int .i64)])], [(1000002000, .root cBind false)]⟩,
    ⟨[(3, false, [.own 1000002300])], [(1000002300, .root cBind false)]⟩, none⟩),
  (4, ⟨⟨[(3, false, [.own 1000004000]), (54, false, [.dat (.int .i64)])], [(1000004000, .root cBind false)]⟩,
    ⟨[(3, false, [.own 1000004300])], [(1000004300, .root cBind false)]⟩, none⟩),
  (6, ⟨⟨[(3, false, [.own 1000006000]), (8, false, [.dat (.int .i64)])], [(1000006000, .root cBind false)]⟩,
    ⟨[(3, false, [.own 1000006300])], [(1000006300, .root cBind false)]⟩, none⟩),
  (8, ⟨⟨[(3, false, [.own 1000008000]), (79, false, [.dat (.int .i64)])], [(1000008000, .root cBind false)]⟩,
    ⟨[(3, false, [.own 1000008300])], [(1000008300, .root cBind false)]⟩, none⟩),
  (10, ⟨⟨[(3, false, [.own 1000010000]), (105, false, [.dat (.int .i64)])], [(1000010000, .root cBind false)]⟩,
    ⟨[(3, false, [.own 1000010300])], [(1000010300, .root cBind false)]⟩, none⟩)]
theorem e_impl_MibList : fnDen ⟨tis, fns_109⟩ a_impl_MibList Try.f37 (codeOf Try.f37) [.val true cBridge false] [.val false (.one (.sl cBind)) false] = fun a => impl_MibList a := by kernel_rfl
theorem m_impl_MibList : Meets Try.prog 37 F_impl_MibList := by
  have h := meets_of (ann := a_impl_MibList) (ps := [.val true cBridge false]) (rs := [.val false (.one (.sl cBind)) false]) g_109 mixed Try.func37 (by kernel_rfl) (by kernel_rfl : Try.f37.body = some (codeOf Try.f37))
  rw [e_impl_MibList] at h
  exact h
noncomputable def fns_37 : List (FuncId × Fn) := (37, F_impl_MibList) :: fns_109
theorem g_37 : Good Try.prog ⟨tis, fns_37⟩ := g_109.cons m_impl_MibList
noncomputable def impl_LessOid_l0 (a0 : List Int) (b1 : List Int) (i5 : Int) : Option (Int ⊕ (Unit ⊕ Bool)) :=
  (cond (decide (i5 < (a0.length : Int))) (some (decide (i5 < (b1.length : Int)))) (some false)).bind fun t15 =>
  cond t15
    ((at? a0 i5).bind fun x20 =>
    (at? b1 i5).bind fun x24 =>
    cond (x20 != x24)
      ((at? a0 i5).bind fun x29 =>
      (at? b1 i5).bind fun x33 =>
      some (.inr (.inr (decide (x29 < x33)))))
      (some (.inl (w64 (i5 + 1)))))
    (some (.inr (.inl ())))
noncomputable def impl_LessOid (a0 : List Int) (b1 : List Int) : Option Bool :=
  (loop (fun z => impl_LessOid_l0 a0 b1 z) 0).bind (Sum.elim (fun d =>
    let t4 := decide ((a0.length : Int) < (b1.length : Int))
    some t4) (fun r => some r))
noncomputable def F_impl_LessOid : Fn := ⟨[.val false (.one (.sl (.one (.int .i64)))) false, .val false (.one (.sl (.one (.int .i64)))) false], [.val false (.one .bool) true], fun a => impl_LessOid a.1 a.2⟩
def a_impl_LessOid : List (Nat × LoopAnn) := [(0, ⟨⟨[(5, false, [.dat (.int .i64)]), (11, false, [.undef]), (12, false, [.undef]), (13, false, [.undef]), (14, false, [.undef])], []⟩,
    ⟨[], []⟩, some ⟨[(4, false, [.dat .bool])], []⟩⟩)]
theorem e_impl_LessOid : fnDen ⟨tis, fns_37⟩ a_impl_LessOid Try.f39 (codeOf Try.f39) [.val false (.one (.sl (.one (.int .i64)))) false, .val false (.one (.sl (.one (.int .i64)))) false] [.val false (.one .bool) true] = fun a => impl_LessOid a.1 a.2 := by kernel_rfl
theorem m_impl_LessOid : Meets Try.prog 39 F_impl_LessOid := by
  have h := meets_of (ann := a_impl_LessOid) (ps := [.val false (.one (.sl (.one (.int .i64)))) false, .val false (.one (.sl (.one (.int .i64)))) false]) (rs := [.val false (.one .bool) true]) g_37 mixed Try.func39 (by kernel_rfl) (by kernel_rfl : Try.f39.body = some (codeOf Try.f39))
  rw [e_impl_LessOid] at h
  exact h
noncomputable def fns_39 : List (FuncId × Fn) := (39, F_impl_LessOid) :: fns_37
theorem g_39 : Good Try.prog ⟨tis, fns_39⟩ := g_37.cons m_impl_LessOid
noncomputable def impl_copyInts (l0 : List Int) : Option (List Int) :=
  (app [] l0).bind fun zs4 =>
  some zs4
noncomputable def F_impl_copyInts : Fn := ⟨[.val false (.one (.sl (.one (.int .i64)))) false], [.val false (.one (.sl (.one (.int .i64)))) true], fun a => impl_copyInts a⟩
def a_impl_copyInts : List (Nat × LoopAnn) := []
theorem e_impl_copyInts : fnDen ⟨tis, fns_39⟩ a_impl_copyInts Try.f186 (codeOf Try.f186) [.val false (.one (.sl (.one (.int .i64)))) false] [.val false (.one (.sl (.one (.int .i64)))) true] = fun a => impl_copyInts a := by kernel_rfl
theorem m_impl_copyInts : Meets Try.prog 186 F_impl_copyInts := by
  have h := meets_of (ann := a_impl_copyInts) (ps := [.val false (.one (.sl (.one (.int .i64)))) false]) (rs := [.val false (.one (.sl (.one (.int .i64)))) true]) g_39 mixed Try.func186 (by kernel_rfl) (by kernel_rfl : Try.f186.body = some (codeOf Try.f186))
  rw [e_impl_copyInts] at h
  exact h
noncomputable def fns_186 : List (FuncId × Fn) := (186, F_impl_copyInts) :: fns_39
theorem g_186 : Good Try.prog ⟨tis, fns_186⟩ := g_39.cons m_impl_copyInts
noncomputable def impl_MibNext_l0 (o1 : List Int) (t8 : List Bind) (t10 : Int) (b1 : Int) (b2 : Int) (b3 : List UInt8) (b0_1 : List Int) (b4 : List Int) : Option ((Int × Int × Int × List UInt8 × List Int × List Int) ⊕ ((Int × Int × List UInt8 × List Int × List Int) ⊕ (List Int × Int × Int × List UInt8 × List Int))) :=
  cond (decide (t10 < (t8.length : Int)))
    ((at? t8 t10).bind fun x12 =>
    (impl_LessOid o1 x12.1).bind fun t17 =>
    cond t17
      (some (.inr (.inr x12)))
      (some (.inl (w64 (t10 + 1), b1, b2, b3, b0_1, b4))))
    (some (.inr (.inl (b1, b2, b3, b0_1, b4))))
noncomputable def impl_MibNext (b0 : Bridge) (o1 : List Int) : Option Bind :=
  (impl_MibList b0).bind fun t8 =>
  (loop (fun z => impl_MibNext_l0 o1 t8 z.1 z.2.1 z.2.2.1 z.2.2.2.1 z.2.2.2.2.1 z.2.2.2.2.2) (0, 0, 0, [], [], [])).bind (Sum.elim (fun d =>
    (impl_copyInts o1).bind fun t21 =>
    some (t21, 130, 0, [], [])) (fun r => some r))
noncomputable def F_impl_MibNext : Fn := ⟨[.val true cBridge false, .val false (.one (.sl (.one (.int .i64)))) false], [.val true cBind false], fun a => impl_MibNext a.1 a.2⟩
def a_impl_MibNext : List (Nat × LoopAnn) := [(0, ⟨⟨[(10, false, [.dat (.int .i64)])], [(2048, .box [.own 1000000000, .dat (.int .i64), .dat (.int .i64), .dat .str, .own 1000000001]), (1000000000, .root (.one (.int .i64)) true), (1000000001, .root (.one (.int .i64)) true)]⟩,
    ⟨[], [(2048, .box [.own 1000000300, .dat (.int .i64), .dat (.int .i64), .dat .str, .own 1000000301]), (1000000300, .root (.one (.int .i64)) true), (1000000301, .root (.one (.int .i64)) true)]⟩, some ⟨[], [(2048, .box [.dat (.sl (.one (.int .i64))), .dat (.int .i64), .dat (.int .i64), .dat .str, .dat (.sl (.one (.int .i64)))])]⟩⟩)]
theorem e_impl_MibNext : fnDen ⟨tis, fns_186⟩ a_impl_MibNext Try.f110 (codeOf Try.f110) [.val true cBridge false, .val false (.one (.sl (.one (.int .i64)))) false] [.val true cBind false] = fun a => impl_MibNext a.1 a.2 := by kernel_rfl
theorem m_impl_MibNext : Meets Try.prog 110 F_impl_MibNext := by
  have h := meets_of (ann := a_impl_MibNext) (ps := [.val true cBridge false, .val false (.one (.sl (.one (.int .i64)))) false]) (rs := [.val true cBind false]) g_186 mixed Try.func110 (by kernel_rfl) (by kernel_rfl : Try.f110.body = some (codeOf Try.f110))
  rw [e_impl_MibNext] at h
  exact h
noncomputable def fns_110 : List (FuncId × Fn) := (110, F_impl_MibNext) :: fns_186
theorem g_110 : Good Try.prog ⟨tis, fns_110⟩ := g_186.cons m_impl_MibNext
noncomputable def impl_Walk_l0 (b0 : Bridge) (n2 : Int) (o8 : List Int) (out7 : List Bind) : Option ((List Int × List Bind) ⊕ (List Bind)) :=
  (impl_in n2 0 200).bind fun t12 =>
  (cond t12 (some (decide ((out7.length : Int) < n2))) (some false)).bind fun t18 =>
  cond t18
    ((impl_MibNext b0 o8).bind fun t21 =>
    cond (t21.2.1 == 130)
      (some (.inr out7))
      ((app out7 [t21]).bind fun zs29 =>
      some (.inl (t21.1, zs29))))
    (some (.inr out7))
noncomputable def impl_Walk (b0 : Bridge) (from1 : List Int) (n2 : Int) : Option (List Bind) :=
  (loop (fun z => impl_Walk_l0 b0 n2 z.1 z.2) (from1, [])).bind fun d =>
  some d
noncomputable def F_impl_Walk : Fn := ⟨[.val true cBridge false, .val false (.one (.sl (.one (.int .i64)))) false, .val false (.one (.int .i64)) false], [.val false (.one (.sl cBind)) false], fun a => impl_Walk a.1 a.2.1 a.2.2⟩
def a_impl_Walk : List (Nat × LoopAnn) := [(0, ⟨⟨[(7, false, [.own 1000000000]), (8, false, [.dat (.sl (.one (.int .i64)))]), (14, false, [.undef]), (15, false, [.undef]), (16, false, [.undef]), (17, false, [.undef])], [(1000000000, .root cBind false)]⟩,
    ⟨[(7, false, [.own 1000000300])], [(1000000300, .root cBind false)]⟩, none⟩)]
theorem e_impl_Walk : fnDen ⟨tis, fns_110⟩ a_impl_Walk Try.f38 (codeOf Try.f38) [.val true cBridge false, .val false (.one (.sl (.one (.int .i64)))) false, .val false (.one (.int .i64)) false] [.val false (.one (.sl cBind)) false] = fun a => impl_Walk a.1 a.2.1 a.2.2 := by kernel_rfl
theorem m_impl_Walk : Meets Try.prog 38 F_impl_Walk := by
  have h := meets_of (ann := a_impl_Walk) (ps := [.val true cBridge false, .val false (.one (.sl (.one (.int .i64)))) false, .val false (.one (.int .i64)) false]) (rs := [.val false (.one (.sl cBind)) false]) g_110 mixed Try.func38 (by kernel_rfl) (by kernel_rfl : Try.f38.body = some (codeOf Try.f38))
  rw [e_impl_Walk] at h
  exact h
noncomputable def fns_38 : List (FuncId × Fn) := (38, F_impl_Walk) :: fns_110
theorem g_38 : Good Try.prog ⟨tis, fns_38⟩ := g_110.cons m_impl_Walk
noncomputable def impl_SameOid_l0 (a0 : List Int) (b1 : List Int) (t13 : Int) : Option (Int ⊕ (Unit ⊕ Bool)) :=
  cond (decide (t13 < (a0.length : Int)))
    ((at? a0 t13).bind fun x18 =>
    (at? b1 t13).bind fun x22 =>
    cond (x18 != x22) (some (.inr (.inr false))) (some (.inl (w64 (t13 + 1)))))
    (some (.inr (.inl ())))
noncomputable def impl_SameOid (a0 : List Int) (b1 : List Int) : Option Bool :=
  cond ((a0.length : Int) != (b1.length : Int))
    (some false)
    ((loop (fun z => impl_SameOid_l0 a0 b1 z) 0).bind (Sum.elim (fun d =>
      some true) (fun r => some r)))
noncomputable def F_impl_SameOid : Fn := ⟨[.val false (.one (.sl (.one (.int .i64)))) false, .val false (.one (.sl (.one (.int .i64)))) false], [.val false (.one .bool) true], fun a => impl_SameOid a.1 a.2⟩
def a_impl_SameOid : List (Nat × LoopAnn) := [(0, ⟨⟨[(13, false, [.dat (.int .i64)])], []⟩,
    ⟨[], []⟩, some ⟨[(4, false, [.dat .bool])], []⟩⟩)]
theorem e_impl_SameOid : fnDen ⟨tis, fns_38⟩ a_impl_SameOid Try.f52 (codeOf Try.f52) [.val false (.one (.sl (.one (.int .i64)))) false, .val false (.one (.sl (.one (.int .i64)))) false] [.val false (.one .bool) true] = fun a => impl_SameOid a.1 a.2 := by kernel_rfl
theorem m_impl_SameOid : Meets Try.prog 52 F_impl_SameOid := by
  have h := meets_of (ann := a_impl_SameOid) (ps := [.val false (.one (.sl (.one (.int .i64)))) false, .val false (.one (.sl (.one (.int .i64)))) false]) (rs := [.val false (.one .bool) true]) g_38 mixed Try.func52 (by kernel_rfl) (by kernel_rfl : Try.f52.body = some (codeOf Try.f52))
  rw [e_impl_SameOid] at h
  exact h
noncomputable def fns_52 : List (FuncId × Fn) := (52, F_impl_SameOid) :: fns_38
theorem g_52 : Good Try.prog ⟨tis, fns_52⟩ := g_38.cons m_impl_SameOid
noncomputable def impl_SameVal (a0 : Val) (b1 : Val) : Option Bool :=
  (cond (a0.1 == b1.1) (some (a0.2.1 == b1.2.1)) (some false)).bind fun t16 =>
  (cond t16 (some (a0.2.2.1 == b1.2.2.1)) (some false)).bind fun t23 =>
  (cond t23
    ((impl_SameOid a0.2.2.2 b1.2.2.2).bind fun t29 =>
    some t29)
    (some false)).bind fun t30 =>
  some t30
noncomputable def F_impl_SameVal : Fn := ⟨[.val true cVal false, .val true cVal false], [.val false (.one .bool) true], fun a => impl_SameVal a.1 a.2⟩
def a_impl_SameVal : List (Nat × LoopAnn) := []
theorem e_impl_SameVal : fnDen ⟨tis, fns_52⟩ a_impl_SameVal Try.f50 (codeOf Try.f50) [.val true cVal false, .val true cVal false] [.val false (.one .bool) true] = fun a => impl_SameVal a.1 a.2 := by kernel_rfl
theorem m_impl_SameVal : Meets Try.prog 50 F_impl_SameVal := by
  have h := meets_of (ann := a_impl_SameVal) (ps := [.val true cVal false, .val true cVal false]) (rs := [.val false (.one .bool) true]) g_52 mixed Try.func50 (by kernel_rfl) (by kernel_rfl : Try.f50.body = some (codeOf Try.f50))
  rw [e_impl_SameVal] at h
  exact h
noncomputable def fns_50 : List (FuncId × Fn) := (50, F_impl_SameVal) :: fns_52
theorem g_50 : Good Try.prog ⟨tis, fns_50⟩ := g_52.cons m_impl_SameVal
noncomputable def impl_SameBinds_l0 (a0 : List Bind) (b1 : List Bind) (t13 : Int) : Option (Int ⊕ (Unit ⊕ Bool)) :=
  cond (decide (t13 < (a0.length : Int)))
    ((at? a0 t13).bind fun x18 =>
    (at? b1 t13).bind fun x23 =>
    (impl_SameOid x18.1 x23.1).bind fun t26 =>
    (cond (!t26)
      (some true)
      ((at? a0 t13).bind fun x31 =>
      (at? b1 t13).bind fun x36 =>
      (impl_SameVal x31.2 x36.2).bind fun t39 =>
      some (!t39))).bind fun t41 =>
    cond t41 (some (.inr (.inr false))) (some (.inl (w64 (t13 + 1)))))
    (some (.inr (.inl ())))
noncomputable def impl_SameBinds (a0 : List Bind) (b1 : List Bind) : Option Bool :=
  cond ((a0.length : Int) != (b1.length : Int))
    (some false)
    ((loop (fun z => impl_SameBinds_l0 a0 b1 z) 0).bind (Sum.elim (fun d =>
      some true) (fun r => some r)))
noncomputable def F_impl_SameBinds : Fn := ⟨[.val false (.one (.sl cBind)) false, .val false (.one (.sl cBind)) false], [.val false (.one .bool) true], fun a => impl_SameBinds a.1 a.2⟩
def a_impl_SameBinds : List (Nat × LoopAnn) := [(0, ⟨⟨[(13, false, [.dat (.int .i64)]), (29, false, [.undef]), (30, false, [.undef]), (31, false, [.undef]), (32, false, [.undef]), (33, false, [.undef]), (34, false, [.undef]), (35, false, [.undef]), (36, false, [.undef]), (37, false, [.undef]), (38, false, [.undef]), (39, false, [.undef]), (40, false, [.undef])], []⟩,
    ⟨[], []⟩, some ⟨[(4, false, [.dat .bool])], []⟩⟩)]
theorem e_impl_SameBinds : fnDen ⟨tis, fns_50⟩ a_impl_SameBinds Try.f40 (codeOf Try.f40) [.val false (.one (.sl cBind)) false, .val false (.one (.sl cBind)) false] [.val false (.one .bool) true] = fun a => impl_SameBinds a.1 a.2 := by kernel_rfl
theorem m_impl_SameBinds : Meets Try.prog 40 F_impl_SameBinds := by
  have h := meets_of (ann := a_impl_SameBinds) (ps := [.val false (.one (.sl cBind)) false, .val false (.one (.sl cBind)) false]) (rs := [.val false (.one .bool) true]) g_50 mixed Try.func40 (by kernel_rfl) (by kernel_rfl : Try.f40.body = some (codeOf Try.f40))
  rw [e_impl_SameBinds] at h
  exact h
noncomputable def fns_40 : List (FuncId × Fn) := (40, F_impl_SameBinds) :: fns_50
theorem g_40 : Good Try.prog ⟨tis, fns_40⟩ := g_50.cons m_impl_SameBinds
noncomputable def laws_FnWalks_l0 (t14 : Bridge × List Int) (t18 : List Bind) (t8 : Int) (t9 : Int) : Option ((Int × Int) ⊕ Int) :=
  cond (decide (t9 < (t18.length : Int)))
    ((at? t18 t9).bind fun x34 =>
    (impl_LessOid t14.2 x34.1).bind fun t37 =>
    cond t37
      (some (.inl (w64 (t8 + 1), w64 (t9 + 1))))
      (some (.inl (t8, w64 (t9 + 1)))))
    (some (.inr t8))
noncomputable def laws_FnWalks (p0 : List Int) : Option Bool :=
  (laws_big p0).bind fun t11 =>
  cond t11
    (some true)
    ((spec_DrawNamed p0).bind fun t14 =>
    (impl_MibList t14.1).bind fun t18 =>
    (impl_Walk t14.1 ([0] : List Int) 200).bind fun t21 =>
    (impl_Walk t14.1 t14.2 200).bind fun t24 =>
    (loop (fun z => laws_FnWalks_l0 t14 t18 z.1 z.2) (0, 0)).bind fun d =>
    (impl_SameBinds t21 t18).bind fun t42 =>
    (cond t42 (some ((t24.length : Int) == d)) (some false)).bind fun t48 =>
    (cond t48
      ((cut t18 (w64 ((t18.length : Int) - d)) (t18.length : Int)).bind fun t56 =>
      (impl_SameBinds t24 t56).bind fun t57 =>
      some t57)
      (some false)).bind fun t58 =>
    (cond t58
      ((impl_Walk t14.1 t14.2 2).bind fun t62 =>
      some (decide ((t62.length : Int) ≤ 2)))
      (some false)).bind fun t65 =>
    some t65)
noncomputable def F_laws_FnWalks : Fn := ⟨[.val false (.one (.sl (.one (.int .u8)))) false], [.val false (.one .bool) true], fun a => laws_FnWalks a⟩
def a_laws_FnWalks : List (Nat × LoopAnn) := [(0, ⟨⟨[(8, false, [.dat (.int .i64)]), (9, false, [.dat (.int .i64)])], []⟩,
    ⟨[(8, false, [.dat (.int .i64)])], []⟩, none⟩)]
theorem e_laws_FnWalks : fnDen ⟨tis, fns_40⟩ a_laws_FnWalks Try.f7 (codeOf Try.f7) [.val false (.one (.sl (.one (.int .u8)))) false] [.val false (.one .bool) true] = fun a => laws_FnWalks a := by kernel_rfl
theorem m_laws_FnWalks : Meets Try.prog 7 F_laws_FnWalks := by
  have h := meets_of (ann := a_laws_FnWalks) (ps := [.val false (.one (.sl (.one (.int .u8)))) false]) (rs := [.val false (.one .bool) true]) g_40 mixed Try.func7 (by kernel_rfl) (by kernel_rfl : Try.f7.body = some (codeOf Try.f7))
  rw [e_laws_FnWalks] at h
  exact h
noncomputable def fns_7 : List (FuncId × Fn) := (7, F_laws_FnWalks) :: fns_40
theorem g_7 : Good Try.prog ⟨tis, fns_7⟩ := g_40.cons m_laws_FnWalks
end Go.V.W
