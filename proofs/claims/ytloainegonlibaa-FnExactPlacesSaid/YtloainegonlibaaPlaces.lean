/- The law FnExactPlaces: part of the proof that for every input it returns true. No condition. -/
import Derived.Test.YtloainegonlibaaV3
import Derived.Test.YtloainegonlibaaProg
import Derived.Test.YtloainegonlibaaChecked
import Derived.KernelRfl
namespace Go.V.W
open Go.Proofs
set_option linter.unusedVariables false
@[reducible] def cVec : Cs := .cons (.int .i64) (.cons (.int .i64) (.cons (.int .i64) (.cons (.int .i64) (.one (.int .i64)))))
@[reducible] def cPt : Cs := .cons .bool (.cons (.int .i64) (.cons .bool (.cons (.int .i64) (.cons (.int .i64) (.cons (.int .i64) (.cons (.int .i64) (.one (.int .i64))))))))
@[reducible] def cFent : Cs := .cons (.int .i64) (.cons (.int .i64) (.cons (.int .i64) (.cons (.int .i64) (.one .bool))))
@[reducible] def cVrow : Cs := .cons (.int .i64) (.cons (.int .i64) (.one (.int .i64)))
@[reducible] def cVtab : Cs := .cons (.sl cVrow) (.one (.sl (.one (.int .i64))))
@[reducible] def cBridge : Cs := .cons (.int .i64) (.cons .str (.cons (.sl cPt) (.cons (.sl cFent) (.cons (.sl cVrow) (.cons (.sl (.one (.int .i64))) (.cons (.int .i64) (.cons (.int .i64) (.cons (.int .i64) (.cons (.int .i64) (.one (.int .i64)))))))))))
@[reducible] def cVal : Cs := .cons (.int .i64) (.cons (.int .i64) (.cons .str (.one (.sl (.one (.int .i64))))))
@[reducible] def cBind : Cs := .cons (.sl (.one (.int .i64))) (.cons (.int .i64) (.cons (.int .i64) (.cons .str (.one (.sl (.one (.int .i64)))))))
abbrev Vec : Type := Int × Int × Int × Int × Int
abbrev Pt : Type := Bool × Int × Bool × Int × Int × Int × Int × Int
abbrev Fent : Type := Int × Int × Int × Int × Bool
abbrev Vrow : Type := Int × Int × Int
abbrev Vtab : Type := List Vrow × List Int
abbrev Bridge : Type := Int × List UInt8 × List Pt × List Fent × List Vrow × List Int × Int × Int × Int × Int × Int
abbrev Val : Type := Int × Int × List UInt8 × List Int
abbrev Bind : Type := List Int × Int × Int × List UInt8 × List Int
def tis : List (Nat × TInfo) := [(2, ⟨false, .one (.int .i64), [], 0⟩),
  (3, ⟨false, .one (.int .i64), [], 0⟩),
  (4, ⟨false, .one .bool, [], 0⟩),
  (5, ⟨false, .one (.int .u8), [], 0⟩),
  (6, ⟨false, .one (.int .u8), [], 0⟩),
  (9, ⟨false, .one .str, [], 0⟩),
  (10, ⟨false, .one .str, [], 0⟩),
  (11, ⟨false, .one .str, [], 0⟩),
  (12, ⟨false, .one (.int .u64), [], 0⟩),
  (21, ⟨false, .one (.int .i32), [], 0⟩),
  (22, ⟨false, .one (.sl (.one (.int .u8))), [], 5⟩),
  (24, ⟨false, .one (.sl cPt), [], 114⟩),
  (25, ⟨false, .one (.sl cFent), [], 166⟩),
  (26, ⟨false, .one (.sl cVrow), [], 164⟩),
  (27, ⟨false, .one (.sl (.one (.int .i64))), [], 3⟩),
  (28, ⟨true, cVtab, [(26, 0), (27, 1)], 0⟩),
  (29, ⟨true, cVtab, [(26, 0), (27, 1)], 0⟩),
  (30, ⟨true, cBridge, [(3, 0), (9, 1), (24, 2), (25, 3), (29, 4), (3, 6), (3, 7), (3, 8), (3, 9), (3, 10)], 0⟩),
  (31, ⟨true, cBridge, [(3, 0), (9, 1), (24, 2), (25, 3), (29, 4), (3, 6), (3, 7), (3, 8), (3, 9), (3, 10)], 0⟩),
  (36, ⟨true, cVal, [(3, 0), (3, 1), (9, 2), (27, 3)], 0⟩),
  (37, ⟨true, cVal, [(3, 0), (3, 1), (9, 2), (27, 3)], 0⟩),
  (39, ⟨true, cBind, [(27, 0), (37, 1)], 0⟩),
  (40, ⟨true, cBind, [(27, 0), (37, 1)], 0⟩),
  (41, ⟨false, .one (.sl cBind), [], 40⟩),
  (43, ⟨false, .one (.sl (.cons (.int .i64) (.cons (.int .i64) (.cons (.int .i64) (.cons (.int .i64) (.one (.sl (.one (.int .u8))))))))), [], 49⟩),
  (46, ⟨true, .cons (.int .i64) (.cons (.int .i64) (.cons (.int .i64) (.one (.sl (.one (.int .u8)))))), [(3, 0), (3, 1), (3, 2), (22, 3)], 0⟩),
  (47, ⟨true, .cons (.int .i64) (.cons (.int .i64) (.cons (.int .i64) (.one (.sl (.one (.int .u8)))))), [(3, 0), (3, 1), (3, 2), (22, 3)], 0⟩),
  (48, ⟨true, .cons (.int .i64) (.cons (.int .i64) (.cons (.int .i64) (.cons (.int .i64) (.one (.sl (.one (.int .u8))))))), [(3, 0), (47, 1)], 0⟩),
  (49, ⟨true, .cons (.int .i64) (.cons (.int .i64) (.cons (.int .i64) (.cons (.int .i64) (.one (.sl (.one (.int .u8))))))), [(3, 0), (47, 1)], 0⟩),
  (50, ⟨false, .one (.sl cPt), [], 202⟩),
  (51, ⟨false, .one (.sl cFent), [], 204⟩),
  (52, ⟨false, .one (.sl cVrow), [], 265⟩),
  (53, ⟨true, cVtab, [(52, 0), (27, 1)], 0⟩),
  (54, ⟨true, cVtab, [(52, 0), (27, 1)], 0⟩),
  (55, ⟨true, cBridge, [(3, 0), (9, 1), (50, 2), (51, 3), (54, 4), (3, 6), (3, 7), (3, 8), (3, 9), (3, 10)], 0⟩),
  (56, ⟨true, cBridge, [(3, 0), (9, 1), (50, 2), (51, 3), (54, 4), (3, 6), (3, 7), (3, 8), (3, 9), (3, 10)], 0⟩),
  (62, ⟨false, .one (.sl (.cons (.int .i64) (.cons (.sl (.one (.int .u8))) (.cons (.int .i64) (.cons (.int .i64) (.cons (.int .i64) (.cons (.int .i64) (.cons (.int .i64) (.cons (.sl cBind) (.cons (.int .i64) (.cons .str (.cons (.sl cPt) (.cons (.sl cFent) (.cons (.sl cVrow) (.cons (.sl (.one (.int .i64))) (.cons (.int .i64) (.cons (.int .i64) (.cons (.int .i64) (.cons (.int .i64) (.cons (.int .i64) (.cons (.int .i64) (.one (.int .i64))))))))))))))))))))))), [], 222⟩),
  (63, ⟨true, .cons (.int .i64) (.cons .str (.cons (.sl cPt) (.cons (.sl cFent) (.cons (.sl cVrow) (.cons (.sl (.one (.int .i64))) (.cons (.int .i64) (.cons (.int .i64) (.cons (.int .i64) (.cons (.int .i64) (.cons (.int .i64) (.cons .str (.cons (.sl (.cons (.int .i64) (.cons (.sl (.one (.int .u8))) (.cons (.int .i64) (.cons (.int .i64) (.cons (.int .i64) (.cons (.int .i64) (.cons (.int .i64) (.cons (.sl cBind) (.cons (.int .i64) (.cons .str (.cons (.sl cPt) (.cons (.sl cFent) (.cons (.sl cVrow) (.cons (.sl (.one (.int .i64))) (.cons (.int .i64) (.cons (.int .i64) (.cons (.int .i64) (.cons (.int .i64) (.cons (.int .i64) (.cons (.int .i64) (.one (.int .i64))))))))))))))))))))))) (.cons (.int .i64) (.one (.int .i64))))))))))))))), [(56, 0), (9, 11), (62, 12), (3, 13), (3, 14)], 0⟩),
  (64, ⟨true, .cons (.int .i64) (.cons .str (.cons (.sl cPt) (.cons (.sl cFent) (.cons (.sl cVrow) (.cons (.sl (.one (.int .i64))) (.cons (.int .i64) (.cons (.int .i64) (.cons (.int .i64) (.cons (.int .i64) (.cons (.int .i64) (.cons .str (.cons (.sl (.cons (.int .i64) (.cons (.sl (.one (.int .u8))) (.cons (.int .i64) (.cons (.int .i64) (.cons (.int .i64) (.cons (.int .i64) (.cons (.int .i64) (.cons (.sl cBind) (.cons (.int .i64) (.cons .str (.cons (.sl cPt) (.cons (.sl cFent) (.cons (.sl cVrow) (.cons (.sl (.one (.int .i64))) (.cons (.int .i64) (.cons (.int .i64) (.cons (.int .i64) (.cons (.int .i64) (.cons (.int .i64) (.cons (.int .i64) (.one (.int .i64))))))))))))))))))))))) (.cons (.int .i64) (.one (.int .i64))))))))))))))), [(56, 0), (9, 11), (62, 12), (3, 13), (3, 14)], 0⟩),
  (67, ⟨false, .one (.sl (.cons (.int .i64) (.cons (.sl (.one (.int .u8))) (.cons (.int .i64) (.cons (.int .i64) (.cons (.int .i64) (.cons (.int .i64) (.cons (.int .i64) (.cons (.sl cBind) (.cons (.int .i64) (.cons .str (.cons (.sl cPt) (.cons (.sl cFent) (.cons (.sl cVrow) (.cons (.sl (.one (.int .i64))) (.cons (.int .i64) (.cons (.int .i64) (.cons (.int .i64) (.cons (.int .i64) (.cons (.int .i64) (.cons (.int .i64) (.one (.int .i64))))))))))))))))))))))), [], 226⟩),
  (68, ⟨true, .cons (.int .i64) (.cons .str (.cons (.sl cPt) (.cons (.sl cFent) (.cons (.sl cVrow) (.cons (.sl (.one (.int .i64))) (.cons (.int .i64) (.cons (.int .i64) (.cons (.int .i64) (.cons (.int .i64) (.cons (.int .i64) (.cons .str (.cons (.sl (.cons (.int .i64) (.cons (.sl (.one (.int .u8))) (.cons (.int .i64) (.cons (.int .i64) (.cons (.int .i64) (.cons (.int .i64) (.cons (.int .i64) (.cons (.sl cBind) (.cons (.int .i64) (.cons .str (.cons (.sl cPt) (.cons (.sl cFent) (.cons (.sl cVrow) (.cons (.sl (.one (.int .i64))) (.cons (.int .i64) (.cons (.int .i64) (.cons (.int .i64) (.cons (.int .i64) (.cons (.int .i64) (.cons (.int .i64) (.one (.int .i64))))))))))))))))))))))) (.cons (.int .i64) (.one (.int .i64))))))))))))))), [(31, 0), (9, 11), (67, 12), (3, 13), (3, 14)], 0⟩),
  (69, ⟨true, .cons (.int .i64) (.cons .str (.cons (.sl cPt) (.cons (.sl cFent) (.cons (.sl cVrow) (.cons (.sl (.one (.int .i64))) (.cons (.int .i64) (.cons (.int .i64) (.cons (.int .i64) (.cons (.int .i64) (.cons (.int .i64) (.cons .str (.cons (.sl (.cons (.int .i64) (.cons (.sl (.one (.int .u8))) (.cons (.int .i64) (.cons (.int .i64) (.cons (.int .i64) (.cons (.int .i64) (.cons (.int .i64) (.cons (.sl cBind) (.cons (.int .i64) (.cons .str (.cons (.sl cPt) (.cons (.sl cFent) (.cons (.sl cVrow) (.cons (.sl (.one (.int .i64))) (.cons (.int .i64) (.cons (.int .i64) (.cons (.int .i64) (.cons (.int .i64) (.cons (.int .i64) (.cons (.int .i64) (.one (.int .i64))))))))))))))))))))))) (.cons (.int .i64) (.one (.int .i64))))))))))))))), [(31, 0), (9, 11), (67, 12), (3, 13), (3, 14)], 0⟩),
  (73, ⟨false, .one (.sl cBridge), [], 31⟩),
  (74, ⟨false, .one (.sl (.cons (.int .i64) (.cons (.int .i64) (.cons (.int .i64) (.one (.int .i64)))))), [], 148⟩),
  (75, ⟨false, .one (.sl (.cons (.int .i64) (.cons .bool (.cons (.int .i64) (.cons (.int .i64) (.cons (.int .i64) (.cons (.int .i64) (.one (.int .i64))))))))), [], 234⟩),
  (76, ⟨true, .cons (.sl cBridge) (.cons (.sl (.cons (.int .i64) (.cons (.int .i64) (.cons (.int .i64) (.one (.int .i64)))))) (.one (.sl (.cons (.int .i64) (.cons .bool (.cons (.int .i64) (.cons (.int .i64) (.cons (.int .i64) (.cons (.int .i64) (.one (.int .i64))))))))))), [(73, 0), (74, 1), (75, 2)], 0⟩),
  (77, ⟨true, .cons (.sl cBridge) (.cons (.sl (.cons (.int .i64) (.cons (.int .i64) (.cons (.int .i64) (.one (.int .i64)))))) (.one (.sl (.cons (.int .i64) (.cons .bool (.cons (.int .i64) (.cons (.int .i64) (.cons (.int .i64) (.cons (.int .i64) (.one (.int .i64))))))))))), [(73, 0), (74, 1), (75, 2)], 0⟩),
  (84, ⟨true, .cons (.int .i64) (.one (.int .i64)), [(3, 0), (3, 1)], 0⟩),
  (85, ⟨true, .cons (.int .i64) (.one (.int .i64)), [(3, 0), (3, 1)], 0⟩),
  (95, ⟨false, .one (.sl cBridge), [], 56⟩),
  (96, ⟨false, .one (.sl (.cons (.int .i64) (.cons (.int .i64) (.cons (.int .i64) (.one (.int .i64)))))), [], 252⟩),
  (97, ⟨false, .one (.sl (.cons (.int .i64) (.cons .bool (.cons (.int .i64) (.cons (.int .i64) (.cons (.int .i64) (.cons (.int .i64) (.one (.int .i64))))))))), [], 255⟩),
  (98, ⟨true, .cons (.sl cBridge) (.cons (.sl (.cons (.int .i64) (.cons (.int .i64) (.cons (.int .i64) (.one (.int .i64)))))) (.one (.sl (.cons (.int .i64) (.cons .bool (.cons (.int .i64) (.cons (.int .i64) (.cons (.int .i64) (.cons (.int .i64) (.one (.int .i64))))))))))), [(95, 0), (96, 1), (97, 2)], 0⟩),
  (99, ⟨true, .cons (.sl cBridge) (.cons (.sl (.cons (.int .i64) (.cons (.int .i64) (.cons (.int .i64) (.one (.int .i64)))))) (.one (.sl (.cons (.int .i64) (.cons .bool (.cons (.int .i64) (.cons (.int .i64) (.cons (.int .i64) (.cons (.int .i64) (.one (.int .i64))))))))))), [(95, 0), (96, 1), (97, 2)], 0⟩),
  (111, ⟨true, cVec, [(3, 0), (3, 1), (3, 2), (3, 3), (3, 4)], 0⟩),
  (112, ⟨true, cVec, [(3, 0), (3, 1), (3, 2), (3, 3), (3, 4)], 0⟩),
  (113, ⟨true, cPt, [(4, 0), (3, 1), (4, 2), (112, 3)], 0⟩),
  (114, ⟨true, cPt, [(4, 0), (3, 1), (4, 2), (112, 3)], 0⟩),
  (138, ⟨false, .one (.sl (.one .str)), [], 9⟩),
  (147, ⟨true, .cons (.int .i64) (.cons (.int .i64) (.cons (.int .i64) (.one (.int .i64)))), [(3, 0), (3, 1), (3, 2), (3, 3)], 0⟩),
  (148, ⟨true, .cons (.int .i64) (.cons (.int .i64) (.cons (.int .i64) (.one (.int .i64)))), [(3, 0), (3, 1), (3, 2), (3, 3)], 0⟩),
  (163, ⟨true, cVrow, [(3, 0), (3, 1), (3, 2)], 0⟩),
  (164, ⟨true, cVrow, [(3, 0), (3, 1), (3, 2)], 0⟩),
  (165, ⟨true, cFent, [(3, 0), (3, 1), (3, 2), (3, 3), (4, 4)], 0⟩),
  (166, ⟨true, cFent, [(3, 0), (3, 1), (3, 2), (3, 3), (4, 4)], 0⟩),
  (200, ⟨true, cVec, [(3, 0), (3, 1), (3, 2), (3, 3), (3, 4)], 0⟩),
  (201, ⟨true, cPt, [(4, 0), (3, 1), (4, 2), (200, 3)], 0⟩),
  (202, ⟨true, cPt, [(4, 0), (3, 1), (4, 2), (200, 3)], 0⟩),
  (204, ⟨true, cFent, [(3, 0), (3, 1), (3, 2), (3, 3), (4, 4)], 0⟩),
  (210, ⟨false, .one .err, [], 0⟩),
  (218, ⟨false, .one (.sl cBind), [], 293⟩),
  (219, ⟨true, .cons (.int .i64) (.cons (.int .i64) (.cons (.int .i64) (.cons (.int .i64) (.one (.sl cBind))))), [(3, 0), (3, 1), (3, 2), (3, 3), (218, 4)], 0⟩),
  (220, ⟨true, .cons (.int .i64) (.cons (.int .i64) (.cons (.int .i64) (.cons (.int .i64) (.one (.sl cBind))))), [(3, 0), (3, 1), (3, 2), (3, 3), (218, 4)], 0⟩),
  (221, ⟨true, .cons (.int .i64) (.cons (.sl (.one (.int .u8))) (.cons (.int .i64) (.cons (.int .i64) (.cons (.int .i64) (.cons (.int .i64) (.cons (.int .i64) (.cons (.sl cBind) (.cons (.int .i64) (.cons .str (.cons (.sl cPt) (.cons (.sl cFent) (.cons (.sl cVrow) (.cons (.sl (.one (.int .i64))) (.cons (.int .i64) (.cons (.int .i64) (.cons (.int .i64) (.cons (.int .i64) (.cons (.int .i64) (.cons (.int .i64) (.one (.int .i64))))))))))))))))))))), [(3, 0), (22, 1), (3, 2), (220, 3), (56, 8), (3, 19), (3, 20)], 0⟩),
  (222, ⟨true, .cons (.int .i64) (.cons (.sl (.one (.int .u8))) (.cons (.int .i64) (.cons (.int .i64) (.cons (.int .i64) (.cons (.int .i64) (.cons (.int .i64) (.cons (.sl cBind) (.cons (.int .i64) (.cons .str (.cons (.sl cPt) (.cons (.sl cFent) (.cons (.sl cVrow) (.cons (.sl (.one (.int .i64))) (.cons (.int .i64) (.cons (.int .i64) (.cons (.int .i64) (.cons (.int .i64) (.cons (.int .i64) (.cons (.int .i64) (.one (.int .i64))))))))))))))))))))), [(3, 0), (22, 1), (3, 2), (220, 3), (56, 8), (3, 19), (3, 20)], 0⟩),
  (223, ⟨true, .cons (.int .i64) (.cons (.int .i64) (.cons (.int .i64) (.cons (.int .i64) (.one (.sl cBind))))), [(3, 0), (3, 1), (3, 2), (3, 3), (41, 4)], 0⟩),
  (224, ⟨true, .cons (.int .i64) (.cons (.int .i64) (.cons (.int .i64) (.cons (.int .i64) (.one (.sl cBind))))), [(3, 0), (3, 1), (3, 2), (3, 3), (41, 4)], 0⟩),
  (225, ⟨true, .cons (.int .i64) (.cons (.sl (.one (.int .u8))) (.cons (.int .i64) (.cons (.int .i64) (.cons (.int .i64) (.cons (.int .i64) (.cons (.int .i64) (.cons (.sl cBind) (.cons (.int .i64) (.cons .str (.cons (.sl cPt) (.cons (.sl cFent) (.cons (.sl cVrow) (.cons (.sl (.one (.int .i64))) (.cons (.int .i64) (.cons (.int .i64) (.cons (.int .i64) (.cons (.int .i64) (.cons (.int .i64) (.cons (.int .i64) (.one (.int .i64))))))))))))))))))))), [(3, 0), (22, 1), (3, 2), (224, 3), (31, 8), (3, 19), (3, 20)], 0⟩),
  (226, ⟨true, .cons (.int .i64) (.cons (.sl (.one (.int .u8))) (.cons (.int .i64) (.cons (.int .i64) (.cons (.int .i64) (.cons (.int .i64) (.cons (.int .i64) (.cons (.sl cBind) (.cons (.int .i64) (.cons .str (.cons (.sl cPt) (.cons (.sl cFent) (.cons (.sl cVrow) (.cons (.sl (.one (.int .i64))) (.cons (.int .i64) (.cons (.int .i64) (.cons (.int .i64) (.cons (.int .i64) (.cons (.int .i64) (.cons (.int .i64) (.one (.int .i64))))))))))))))))))))), [(3, 0), (22, 1), (3, 2), (224, 3), (31, 8), (3, 19), (3, 20)], 0⟩),
  (233, ⟨true, .cons (.int .i64) (.cons .bool (.cons (.int .i64) (.cons (.int .i64) (.cons (.int .i64) (.cons (.int .i64) (.one (.int .i64))))))), [(3, 0), (4, 1), (112, 2)], 0⟩),
  (234, ⟨true, .cons (.int .i64) (.cons .bool (.cons (.int .i64) (.cons (.int .i64) (.cons (.int .i64) (.cons (.int .i64) (.one (.int .i64))))))), [(3, 0), (4, 1), (112, 2)], 0⟩),
  (239, ⟨true, .cons (.sl (.one (.int .u8))) (.cons (.int .i64) (.one (.int .i64))), [(22, 0), (3, 1), (3, 2)], 0⟩),
  (240, ⟨true, .cons (.sl (.one (.int .u8))) (.cons (.int .i64) (.one (.int .i64))), [(22, 0), (3, 1), (3, 2)], 0⟩),
  (252, ⟨true, .cons (.int .i64) (.cons (.int .i64) (.cons (.int .i64) (.one (.int .i64)))), [(3, 0), (3, 1), (3, 2), (3, 3)], 0⟩),
  (254, ⟨true, .cons (.int .i64) (.cons .bool (.cons (.int .i64) (.cons (.int .i64) (.cons (.int .i64) (.cons (.int .i64) (.one (.int .i64))))))), [(3, 0), (4, 1), (200, 2)], 0⟩),
  (255, ⟨true, .cons (.int .i64) (.cons .bool (.cons (.int .i64) (.cons (.int .i64) (.cons (.int .i64) (.cons (.int .i64) (.one (.int .i64))))))), [(3, 0), (4, 1), (200, 2)], 0⟩),
  (265, ⟨true, cVrow, [(3, 0), (3, 1), (3, 2)], 0⟩),
  (273, ⟨false, .one (.sl (.one .bool)), [], 4⟩),
  (281, ⟨false, .one (.int .u64), [], 0⟩),
  (291, ⟨true, cVal, [(3, 0), (3, 1), (9, 2), (27, 3)], 0⟩),
  (292, ⟨true, cBind, [(27, 0), (291, 1)], 0⟩),
  (293, ⟨true, cBind, [(27, 0), (291, 1)], 0⟩),
  (304, ⟨false, .one (.int .u32), [], 0⟩),
  (305, ⟨false, .one (.int .u8), [], 0⟩),
  (306, ⟨false, .one (.int .u8), [], 0⟩),
  (308, ⟨false, .one (.int .i32), [], 0⟩),
  (309, ⟨false, .one (.int .i32), [], 0⟩)]
theorem tisT : Tis Try.prog tis := Tis.of_all (by kernel_rfl)
theorem tisE : Eqs Try.prog tis := Eqs.of_all (by kernel_rfl)
theorem tisD : Deep Try.prog tis := Deep.of_all (by kernel_rfl)
theorem mixed : Try.prog.follows .mixedOrders = true := by kernel_rfl
def codeOf (fn : Func) : Code := match fn.body with | some c => c | none => .skip
theorem g_0 : Good Try.prog ⟨tis, []⟩ := ⟨tisT, tisE, fun f F h => by cases h⟩
noncomputable def laws_szPtS (a0 : List Pt) (left1 : Int) : Option Int :=
  let left1_1 := w64 (left1 - (a0.length : Int))
  cond (decide (left1_1 < 0)) (some (-1)) (some left1_1)
noncomputable def F_laws_szPtS : Fn := ⟨[.val false (.one (.sl cPt)) false, .val false (.one (.int .i64)) false], [.val false (.one (.int .i64)) true], fun a => laws_szPtS a.1 a.2⟩
def a_laws_szPtS : List (Nat × LoopAnn) := []
theorem e_laws_szPtS : fnDen ⟨tis, []⟩ a_laws_szPtS Try.f72 (codeOf Try.f72) [.val false (.one (.sl cPt)) false, .val false (.one (.int .i64)) false] [.val false (.one (.int .i64)) true] = fun a => laws_szPtS a.1 a.2 := by kernel_rfl
theorem m_laws_szPtS : Meets Try.prog 72 F_laws_szPtS := by
  have h := meets_of (ann := a_laws_szPtS) (ps := [.val false (.one (.sl cPt)) false, .val false (.one (.int .i64)) false]) (rs := [.val false (.one (.int .i64)) true]) g_0 mixed Try.func72 (by kernel_rfl) (by kernel_rfl : Try.f72.body = some (codeOf Try.f72))
  rw [e_laws_szPtS] at h
  exact h
noncomputable def fns_72 : List (FuncId × Fn) := (72, F_laws_szPtS) :: []
theorem g_72 : Good Try.prog ⟨tis, fns_72⟩ := g_0.cons m_laws_szPtS
noncomputable def laws_szFentS (a0 : List Fent) (left1 : Int) : Option Int :=
  let left1_1 := w64 (left1 - (a0.length : Int))
  cond (decide (left1_1 < 0)) (some (-1)) (some left1_1)
noncomputable def F_laws_szFentS : Fn := ⟨[.val false (.one (.sl cFent)) false, .val false (.one (.int .i64)) false], [.val false (.one (.int .i64)) true], fun a => laws_szFentS a.1 a.2⟩
def a_laws_szFentS : List (Nat × LoopAnn) := []
theorem e_laws_szFentS : fnDen ⟨tis, fns_72⟩ a_laws_szFentS Try.f73 (codeOf Try.f73) [.val false (.one (.sl cFent)) false, .val false (.one (.int .i64)) false] [.val false (.one (.int .i64)) true] = fun a => laws_szFentS a.1 a.2 := by kernel_rfl
theorem m_laws_szFentS : Meets Try.prog 73 F_laws_szFentS := by
  have h := meets_of (ann := a_laws_szFentS) (ps := [.val false (.one (.sl cFent)) false, .val false (.one (.int .i64)) false]) (rs := [.val false (.one (.int .i64)) true]) g_72 mixed Try.func73 (by kernel_rfl) (by kernel_rfl : Try.f73.body = some (codeOf Try.f73))
  rw [e_laws_szFentS] at h
  exact h
noncomputable def fns_73 : List (FuncId × Fn) := (73, F_laws_szFentS) :: fns_72
theorem g_73 : Good Try.prog ⟨tis, fns_73⟩ := g_72.cons m_laws_szFentS
noncomputable def laws_szVrowS (a0 : List Vrow) (left1 : Int) : Option Int :=
  let left1_1 := w64 (left1 - (a0.length : Int))
  cond (decide (left1_1 < 0)) (some (-1)) (some left1_1)
noncomputable def F_laws_szVrowS : Fn := ⟨[.val false (.one (.sl cVrow)) false, .val false (.one (.int .i64)) false], [.val false (.one (.int .i64)) true], fun a => laws_szVrowS a.1 a.2⟩
def a_laws_szVrowS : List (Nat × LoopAnn) := []
theorem e_laws_szVrowS : fnDen ⟨tis, fns_73⟩ a_laws_szVrowS Try.f142 (codeOf Try.f142) [.val false (.one (.sl cVrow)) false, .val false (.one (.int .i64)) false] [.val false (.one (.int .i64)) true] = fun a => laws_szVrowS a.1 a.2 := by kernel_rfl
theorem m_laws_szVrowS : Meets Try.prog 142 F_laws_szVrowS := by
  have h := meets_of (ann := a_laws_szVrowS) (ps := [.val false (.one (.sl cVrow)) false, .val false (.one (.int .i64)) false]) (rs := [.val false (.one (.int .i64)) true]) g_73 mixed Try.func142 (by kernel_rfl) (by kernel_rfl : Try.f142.body = some (codeOf Try.f142))
  rw [e_laws_szVrowS] at h
  exact h
noncomputable def fns_142 : List (FuncId × Fn) := (142, F_laws_szVrowS) :: fns_73
theorem g_142 : Good Try.prog ⟨tis, fns_142⟩ := g_73.cons m_laws_szVrowS
noncomputable def laws_szIntS (a0 : List Int) (left1 : Int) : Option Int :=
  let left1_1 := w64 (left1 - (a0.length : Int))
  cond (decide (left1_1 < 0)) (some (-1)) (some left1_1)
noncomputable def F_laws_szIntS : Fn := ⟨[.val false (.one (.sl (.one (.int .i64)))) false, .val false (.one (.int .i64)) false], [.val false (.one (.int .i64)) true], fun a => laws_szIntS a.1 a.2⟩
def a_laws_szIntS : List (Nat × LoopAnn) := []
theorem e_laws_szIntS : fnDen ⟨tis, fns_142⟩ a_laws_szIntS Try.f143 (codeOf Try.f143) [.val false (.one (.sl (.one (.int .i64)))) false, .val false (.one (.int .i64)) false] [.val false (.one (.int .i64)) true] = fun a => laws_szIntS a.1 a.2 := by kernel_rfl
theorem m_laws_szIntS : Meets Try.prog 143 F_laws_szIntS := by
  have h := meets_of (ann := a_laws_szIntS) (ps := [.val false (.one (.sl (.one (.int .i64)))) false, .val false (.one (.int .i64)) false]) (rs := [.val false (.one (.int .i64)) true]) g_142 mixed Try.func143 (by kernel_rfl) (by kernel_rfl : Try.f143.body = some (codeOf Try.f143))
  rw [e_laws_szIntS] at h
  exact h
noncomputable def fns_143 : List (FuncId × Fn) := (143, F_laws_szIntS) :: fns_142
theorem g_143 : Good Try.prog ⟨tis, fns_143⟩ := g_142.cons m_laws_szIntS
noncomputable def laws_szVtab (a0 : Vtab) (left1 : Int) : Option Int :=
  (laws_szVrowS a0.1 left1).bind fun t8 =>
  cond (decide (t8 < 0))
    (some (-1))
    ((laws_szIntS a0.2 t8).bind fun t14 =>
    cond (decide (t14 < 0)) (some (-1)) (some t14))
noncomputable def F_laws_szVtab : Fn := ⟨[.val true cVtab false, .val false (.one (.int .i64)) false], [.val false (.one (.int .i64)) true], fun a => laws_szVtab a.1 a.2⟩
def a_laws_szVtab : List (Nat × LoopAnn) := []
theorem e_laws_szVtab : fnDen ⟨tis, fns_143⟩ a_laws_szVtab Try.f74 (codeOf Try.f74) [.val true cVtab false, .val false (.one (.int .i64)) false] [.val false (.one (.int .i64)) true] = fun a => laws_szVtab a.1 a.2 := by kernel_rfl
theorem m_laws_szVtab : Meets Try.prog 74 F_laws_szVtab := by
  have h := meets_of (ann := a_laws_szVtab) (ps := [.val true cVtab false, .val false (.one (.int .i64)) false]) (rs := [.val false (.one (.int .i64)) true]) g_143 mixed Try.func74 (by kernel_rfl) (by kernel_rfl : Try.f74.body = some (codeOf Try.f74))
  rw [e_laws_szVtab] at h
  exact h
noncomputable def fns_74 : List (FuncId × Fn) := (74, F_laws_szVtab) :: fns_143
theorem g_74 : Good Try.prog ⟨tis, fns_74⟩ := g_143.cons m_laws_szVtab
noncomputable def laws_szBridge (a0 : Bridge) (left1 : Int) : Option Int :=
  let left1_1 := w64 (left1 - (a0.2.1.length : Int))
  cond (decide (left1_1 < 0))
    (some (-1))
    ((laws_szPtS a0.2.2.1 left1_1).bind fun t15 =>
    cond (decide (t15 < 0))
      (some (-1))
      ((laws_szFentS a0.2.2.2.1 t15).bind fun t21 =>
      cond (decide (t21 < 0))
        (some (-1))
        ((laws_szVtab (a0.2.2.2.2.1, a0.2.2.2.2.2.1) t21).bind fun t27 =>
        cond (decide (t27 < 0)) (some (-1)) (some t27))))
noncomputable def F_laws_szBridge : Fn := ⟨[.val true cBridge false, .val false (.one (.int .i64)) false], [.val false (.one (.int .i64)) true], fun a => laws_szBridge a.1 a.2⟩
def a_laws_szBridge : List (Nat × LoopAnn) := []
theorem e_laws_szBridge : fnDen ⟨tis, fns_74⟩ a_laws_szBridge Try.f18 (codeOf Try.f18) [.val true cBridge false, .val false (.one (.int .i64)) false] [.val false (.one (.int .i64)) true] = fun a => laws_szBridge a.1 a.2 := by kernel_rfl
theorem m_laws_szBridge : Meets Try.prog 18 F_laws_szBridge := by
  have h := meets_of (ann := a_laws_szBridge) (ps := [.val true cBridge false, .val false (.one (.int .i64)) false]) (rs := [.val false (.one (.int .i64)) true]) g_74 mixed Try.func18 (by kernel_rfl) (by kernel_rfl : Try.f18.body = some (codeOf Try.f18))
  rw [e_laws_szBridge] at h
  exact h
noncomputable def fns_18 : List (FuncId × Fn) := (18, F_laws_szBridge) :: fns_74
theorem g_18 : Good Try.prog ⟨tis, fns_18⟩ := g_74.cons m_laws_szBridge
noncomputable def laws_toVec (a0 : Vec) : Option Vec :=
  some a0
noncomputable def F_laws_toVec : Fn := ⟨[.val true cVec false], [.val true cVec true], fun a => laws_toVec a⟩
def a_laws_toVec : List (Nat × LoopAnn) := []
theorem e_laws_toVec : fnDen ⟨tis, fns_18⟩ a_laws_toVec Try.f201 (codeOf Try.f201) [.val true cVec false] [.val true cVec true] = fun a => laws_toVec a := by kernel_rfl
theorem m_laws_toVec : Meets Try.prog 201 F_laws_toVec := by
  have h := meets_of (ann := a_laws_toVec) (ps := [.val true cVec false]) (rs := [.val true cVec true]) g_18 mixed Try.func201 (by kernel_rfl) (by kernel_rfl : Try.f201.body = some (codeOf Try.f201))
  rw [e_laws_toVec] at h
  exact h
noncomputable def fns_201 : List (FuncId × Fn) := (201, F_laws_toVec) :: fns_18
theorem g_201 : Good Try.prog ⟨tis, fns_201⟩ := g_18.cons m_laws_toVec
noncomputable def laws_toPt (a0 : Pt) : Option Pt :=
  (laws_toVec a0.2.2.2).bind fun t15 =>
  some (a0.1, a0.2.1, a0.2.2.1, t15.1, t15.2.1, t15.2.2.1, t15.2.2.2.1, t15.2.2.2.2)
noncomputable def F_laws_toPt : Fn := ⟨[.val true cPt false], [.val true cPt true], fun a => laws_toPt a⟩
def a_laws_toPt : List (Nat × LoopAnn) := []
theorem e_laws_toPt : fnDen ⟨tis, fns_201⟩ a_laws_toPt Try.f148 (codeOf Try.f148) [.val true cPt false] [.val true cPt true] = fun a => laws_toPt a := by kernel_rfl
theorem m_laws_toPt : Meets Try.prog 148 F_laws_toPt := by
  have h := meets_of (ann := a_laws_toPt) (ps := [.val true cPt false]) (rs := [.val true cPt true]) g_201 mixed Try.func148 (by kernel_rfl) (by kernel_rfl : Try.f148.body = some (codeOf Try.f148))
  rw [e_laws_toPt] at h
  exact h
noncomputable def fns_148 : List (FuncId × Fn) := (148, F_laws_toPt) :: fns_201
theorem g_148 : Good Try.prog ⟨tis, fns_148⟩ := g_201.cons m_laws_toPt
noncomputable def laws_toPtS_l0 (a0 : List Pt) (i4 : Int) (l : List Pt) : Option ((Int × List Pt) ⊕ (List Pt)) :=
  cond (decide (i4 < (a0.length : Int)))
    ((at? a0 i4).bind fun x18 =>
    (laws_toPt x18).bind fun t20 =>
    (ix l.length i4).bind fun j21 =>
    (l[j21]?).bind fun x =>
    some (.inl (w64 (i4 + 1), l.set j21 t20)))
    (some (.inr l))
noncomputable def laws_toPtS (a0 : List Pt) : Option (List Pt) :=
  (mkLen (a0.length : Int)).bind fun n =>
  (loop (fun z => laws_toPtS_l0 a0 z.1 z.2) (0, List.replicate n ((false, 0, false, 0, 0, 0, 0, 0) : Pt))).bind fun d =>
  some d
noncomputable def F_laws_toPtS : Fn := ⟨[.val false (.one (.sl cPt)) false], [.val false (.one (.sl cPt)) true], fun a => laws_toPtS a⟩
def a_laws_toPtS : List (Nat × LoopAnn) := [(0, ⟨⟨[(4, false, [.dat (.int .i64)])], [(265216, .keep cPt true)]⟩,
    ⟨[], [(265216, .keep cPt true)]⟩, none⟩)]
theorem e_laws_toPtS : fnDen ⟨tis, fns_148⟩ a_laws_toPtS Try.f76 (codeOf Try.f76) [.val false (.one (.sl cPt)) false] [.val false (.one (.sl cPt)) true] = fun a => laws_toPtS a := by kernel_rfl
theorem m_laws_toPtS : Meets Try.prog 76 F_laws_toPtS := by
  have h := meets_of (ann := a_laws_toPtS) (ps := [.val false (.one (.sl cPt)) false]) (rs := [.val false (.one (.sl cPt)) true]) g_148 mixed Try.func76 (by kernel_rfl) (by kernel_rfl : Try.f76.body = some (codeOf Try.f76))
  rw [e_laws_toPtS] at h
  exact h
noncomputable def fns_76 : List (FuncId × Fn) := (76, F_laws_toPtS) :: fns_148
theorem g_76 : Good Try.prog ⟨tis, fns_76⟩ := g_148.cons m_laws_toPtS
noncomputable def laws_toFent (a0 : Fent) : Option Fent :=
  some a0
noncomputable def F_laws_toFent : Fn := ⟨[.val true cFent false], [.val true cFent true], fun a => laws_toFent a⟩
def a_laws_toFent : List (Nat × LoopAnn) := []
theorem e_laws_toFent : fnDen ⟨tis, fns_76⟩ a_laws_toFent Try.f149 (codeOf Try.f149) [.val true cFent false] [.val true cFent true] = fun a => laws_toFent a := by kernel_rfl
theorem m_laws_toFent : Meets Try.prog 149 F_laws_toFent := by
  have h := meets_of (ann := a_laws_toFent) (ps := [.val true cFent false]) (rs := [.val true cFent true]) g_76 mixed Try.func149 (by kernel_rfl) (by kernel_rfl : Try.f149.body = some (codeOf Try.f149))
  rw [e_laws_toFent] at h
  exact h
noncomputable def fns_149 : List (FuncId × Fn) := (149, F_laws_toFent) :: fns_76
theorem g_149 : Good Try.prog ⟨tis, fns_149⟩ := g_76.cons m_laws_toFent
noncomputable def laws_toFentS_l0 (a0 : List Fent) (i4 : Int) (l : List Fent) : Option ((Int × List Fent) ⊕ (List Fent)) :=
  cond (decide (i4 < (a0.length : Int)))
    ((at? a0 i4).bind fun x18 =>
    (laws_toFent x18).bind fun t20 =>
    (ix l.length i4).bind fun j21 =>
    (l[j21]?).bind fun x =>
    some (.inl (w64 (i4 + 1), l.set j21 t20)))
    (some (.inr l))
noncomputable def laws_toFentS (a0 : List Fent) : Option (List Fent) :=
  (mkLen (a0.length : Int)).bind fun n =>
  (loop (fun z => laws_toFentS_l0 a0 z.1 z.2) (0, List.replicate n ((0, 0, 0, 0, false) : Fent))).bind fun d =>
  some d
noncomputable def F_laws_toFentS : Fn := ⟨[.val false (.one (.sl cFent)) false], [.val false (.one (.sl cFent)) true], fun a => laws_toFentS a⟩
def a_laws_toFentS : List (Nat × LoopAnn) := [(0, ⟨⟨[(4, false, [.dat (.int .i64)])], [(265216, .keep cFent true)]⟩,
    ⟨[], [(265216, .keep cFent true)]⟩, none⟩)]
theorem e_laws_toFentS : fnDen ⟨tis, fns_149⟩ a_laws_toFentS Try.f77 (codeOf Try.f77) [.val false (.one (.sl cFent)) false] [.val false (.one (.sl cFent)) true] = fun a => laws_toFentS a := by kernel_rfl
theorem m_laws_toFentS : Meets Try.prog 77 F_laws_toFentS := by
  have h := meets_of (ann := a_laws_toFentS) (ps := [.val false (.one (.sl cFent)) false]) (rs := [.val false (.one (.sl cFent)) true]) g_149 mixed Try.func77 (by kernel_rfl) (by kernel_rfl : Try.f77.body = some (codeOf Try.f77))
  rw [e_laws_toFentS] at h
  exact h
noncomputable def fns_77 : List (FuncId × Fn) := (77, F_laws_toFentS) :: fns_149
theorem g_77 : Good Try.prog ⟨tis, fns_77⟩ := g_149.cons m_laws_toFentS
noncomputable def laws_toVrow (a0 : Vrow) : Option Vrow :=
  some a0
noncomputable def F_laws_toVrow : Fn := ⟨[.val true cVrow false], [.val true cVrow true], fun a => laws_toVrow a⟩
def a_laws_toVrow : List (Nat × LoopAnn) := []
theorem e_laws_toVrow : fnDen ⟨tis, fns_77⟩ a_laws_toVrow Try.f202 (codeOf Try.f202) [.val true cVrow false] [.val true cVrow true] = fun a => laws_toVrow a := by kernel_rfl
theorem m_laws_toVrow : Meets Try.prog 202 F_laws_toVrow := by
  have h := meets_of (ann := a_laws_toVrow) (ps := [.val true cVrow false]) (rs := [.val true cVrow true]) g_77 mixed Try.func202 (by kernel_rfl) (by kernel_rfl : Try.f202.body = some (codeOf Try.f202))
  rw [e_laws_toVrow] at h
  exact h
noncomputable def fns_202 : List (FuncId × Fn) := (202, F_laws_toVrow) :: fns_77
theorem g_202 : Good Try.prog ⟨tis, fns_202⟩ := g_77.cons m_laws_toVrow
noncomputable def laws_toVrowS_l0 (a0 : List Vrow) (i4 : Int) (l : List Vrow) : Option ((Int × List Vrow) ⊕ (List Vrow)) :=
  cond (decide (i4 < (a0.length : Int)))
    ((at? a0 i4).bind fun x18 =>
    (laws_toVrow x18).bind fun t20 =>
    (ix l.length i4).bind fun j21 =>
    (l[j21]?).bind fun x =>
    some (.inl (w64 (i4 + 1), l.set j21 t20)))
    (some (.inr l))
noncomputable def laws_toVrowS (a0 : List Vrow) : Option (List Vrow) :=
  (mkLen (a0.length : Int)).bind fun n =>
  (loop (fun z => laws_toVrowS_l0 a0 z.1 z.2) (0, List.replicate n ((0, 0, 0) : Vrow))).bind fun d =>
  some d
noncomputable def F_laws_toVrowS : Fn := ⟨[.val false (.one (.sl cVrow)) false], [.val false (.one (.sl cVrow)) true], fun a => laws_toVrowS a⟩
def a_laws_toVrowS : List (Nat × LoopAnn) := [(0, ⟨⟨[(4, false, [.dat (.int .i64)])], [(265216, .keep cVrow true)]⟩,
    ⟨[], [(265216, .keep cVrow true)]⟩, none⟩)]
theorem e_laws_toVrowS : fnDen ⟨tis, fns_202⟩ a_laws_toVrowS Try.f150 (codeOf Try.f150) [.val false (.one (.sl cVrow)) false] [.val false (.one (.sl cVrow)) true] = fun a => laws_toVrowS a := by kernel_rfl
theorem m_laws_toVrowS : Meets Try.prog 150 F_laws_toVrowS := by
  have h := meets_of (ann := a_laws_toVrowS) (ps := [.val false (.one (.sl cVrow)) false]) (rs := [.val false (.one (.sl cVrow)) true]) g_202 mixed Try.func150 (by kernel_rfl) (by kernel_rfl : Try.f150.body = some (codeOf Try.f150))
  rw [e_laws_toVrowS] at h
  exact h
noncomputable def fns_150 : List (FuncId × Fn) := (150, F_laws_toVrowS) :: fns_202
theorem g_150 : Good Try.prog ⟨tis, fns_150⟩ := g_202.cons m_laws_toVrowS
noncomputable def laws_toIntS_l0 (a0 : List Int) (i4 : Int) (l : List Int) : Option ((Int × List Int) ⊕ (List Int)) :=
  cond (decide (i4 < (a0.length : Int)))
    ((at? a0 i4).bind fun x18 =>
    (ix l.length i4).bind fun j20 =>
    (l[j20]?).bind fun x =>
    some (.inl (w64 (i4 + 1), l.set j20 x18)))
    (some (.inr l))
noncomputable def laws_toIntS (a0 : List Int) : Option (List Int) :=
  (mkLen (a0.length : Int)).bind fun n =>
  (loop (fun z => laws_toIntS_l0 a0 z.1 z.2) (0, List.replicate n (0 : Int))).bind fun d =>
  some d
noncomputable def F_laws_toIntS : Fn := ⟨[.val false (.one (.sl (.one (.int .i64)))) false], [.val false (.one (.sl (.one (.int .i64)))) true], fun a => laws_toIntS a⟩
def a_laws_toIntS : List (Nat × LoopAnn) := [(0, ⟨⟨[(4, false, [.dat (.int .i64)])], [(265216, .keep (.one (.int .i64)) true)]⟩,
    ⟨[], [(265216, .keep (.one (.int .i64)) true)]⟩, none⟩)]
theorem e_laws_toIntS : fnDen ⟨tis, fns_150⟩ a_laws_toIntS Try.f151 (codeOf Try.f151) [.val false (.one (.sl (.one (.int .i64)))) false] [.val false (.one (.sl (.one (.int .i64)))) true] = fun a => laws_toIntS a := by kernel_rfl
theorem m_laws_toIntS : Meets Try.prog 151 F_laws_toIntS := by
  have h := meets_of (ann := a_laws_toIntS) (ps := [.val false (.one (.sl (.one (.int .i64)))) false]) (rs := [.val false (.one (.sl (.one (.int .i64)))) true]) g_150 mixed Try.func151 (by kernel_rfl) (by kernel_rfl : Try.f151.body = some (codeOf Try.f151))
  rw [e_laws_toIntS] at h
  exact h
noncomputable def fns_151 : List (FuncId × Fn) := (151, F_laws_toIntS) :: fns_150
theorem g_151 : Good Try.prog ⟨tis, fns_151⟩ := g_150.cons m_laws_toIntS
noncomputable def laws_toVtab (a0 : Vtab) : Option Vtab :=
  (laws_toVrowS a0.1).bind fun t6 =>
  (laws_toIntS a0.2).bind fun t10 =>
  some (t6, t10)
noncomputable def F_laws_toVtab : Fn := ⟨[.val true cVtab false], [.val true cVtab true], fun a => laws_toVtab a⟩
def a_laws_toVtab : List (Nat × LoopAnn) := []
theorem e_laws_toVtab : fnDen ⟨tis, fns_151⟩ a_laws_toVtab Try.f78 (codeOf Try.f78) [.val true cVtab false] [.val true cVtab true] = fun a => laws_toVtab a := by kernel_rfl
theorem m_laws_toVtab : Meets Try.prog 78 F_laws_toVtab := by
  have h := meets_of (ann := a_laws_toVtab) (ps := [.val true cVtab false]) (rs := [.val true cVtab true]) g_151 mixed Try.func78 (by kernel_rfl) (by kernel_rfl : Try.f78.body = some (codeOf Try.f78))
  rw [e_laws_toVtab] at h
  exact h
noncomputable def fns_78 : List (FuncId × Fn) := (78, F_laws_toVtab) :: fns_151
theorem g_78 : Good Try.prog ⟨tis, fns_78⟩ := g_151.cons m_laws_toVtab
noncomputable def laws_toBridge (a0 : Bridge) : Option Bridge :=
  (laws_toPtS a0.2.2.1).bind fun t12 =>
  (laws_toFentS a0.2.2.2.1).bind fun t16 =>
  (laws_toVtab (a0.2.2.2.2.1, a0.2.2.2.2.2.1)).bind fun t20 =>
  some (a0.1, a0.2.1, t12, t16, t20.1, t20.2, a0.2.2.2.2.2.2.1, a0.2.2.2.2.2.2.2.1, a0.2.2.2.2.2.2.2.2.1, a0.2.2.2.2.2.2.2.2.2.1, a0.2.2.2.2.2.2.2.2.2.2)
noncomputable def F_laws_toBridge : Fn := ⟨[.val true cBridge false], [.val true cBridge true], fun a => laws_toBridge a⟩
def a_laws_toBridge : List (Nat × LoopAnn) := []
theorem e_laws_toBridge : fnDen ⟨tis, fns_78⟩ a_laws_toBridge Try.f20 (codeOf Try.f20) [.val true cBridge false] [.val true cBridge true] = fun a => laws_toBridge a := by kernel_rfl
theorem m_laws_toBridge : Meets Try.prog 20 F_laws_toBridge := by
  have h := meets_of (ann := a_laws_toBridge) (ps := [.val true cBridge false]) (rs := [.val true cBridge true]) g_78 mixed Try.func20 (by kernel_rfl) (by kernel_rfl : Try.f20.body = some (codeOf Try.f20))
  rw [e_laws_toBridge] at h
  exact h
noncomputable def fns_20 : List (FuncId × Fn) := (20, F_laws_toBridge) :: fns_78
theorem g_20 : Good Try.prog ⟨tis, fns_20⟩ := g_78.cons m_laws_toBridge
noncomputable def laws_eqVec (a0 : Vec) (b1 : Vec) : Option Bool :=
  cond (a0.1 != b1.1)
    (some false)
    (cond (a0.2.1 != b1.2.1)
      (some false)
      (cond (a0.2.2.1 != b1.2.2.1)
        (some false)
        (cond (a0.2.2.2.1 != b1.2.2.2.1)
          (some false)
          (cond (a0.2.2.2.2 != b1.2.2.2.2) (some false) (some true)))))
noncomputable def F_laws_eqVec : Fn := ⟨[.val true cVec false, .val true cVec false], [.val false (.one .bool) true], fun a => laws_eqVec a.1 a.2⟩
def a_laws_eqVec : List (Nat × LoopAnn) := []
theorem e_laws_eqVec : fnDen ⟨tis, fns_20⟩ a_laws_eqVec Try.f206 (codeOf Try.f206) [.val true cVec false, .val true cVec false] [.val false (.one .bool) true] = fun a => laws_eqVec a.1 a.2 := by kernel_rfl
theorem m_laws_eqVec : Meets Try.prog 206 F_laws_eqVec := by
  have h := meets_of (ann := a_laws_eqVec) (ps := [.val true cVec false, .val true cVec false]) (rs := [.val false (.one .bool) true]) g_20 mixed Try.func206 (by kernel_rfl) (by kernel_rfl : Try.f206.body = some (codeOf Try.f206))
  rw [e_laws_eqVec] at h
  exact h
noncomputable def fns_206 : List (FuncId × Fn) := (206, F_laws_eqVec) :: fns_20
theorem g_206 : Good Try.prog ⟨tis, fns_206⟩ := g_20.cons m_laws_eqVec
noncomputable def laws_eqPt (a0 : Pt) (b1 : Pt) : Option Bool :=
  cond (!(a0.1 == b1.1))
    (some false)
    (cond (a0.2.1 != b1.2.1)
      (some false)
      (cond (!(a0.2.2.1 == b1.2.2.1))
        (some false)
        ((laws_eqVec a0.2.2.2 b1.2.2.2).bind fun t24 =>
        cond (!t24) (some false) (some true))))
noncomputable def F_laws_eqPt : Fn := ⟨[.val true cPt false, .val true cPt false], [.val false (.one .bool) true], fun a => laws_eqPt a.1 a.2⟩
def a_laws_eqPt : List (Nat × LoopAnn) := []
theorem e_laws_eqPt : fnDen ⟨tis, fns_206⟩ a_laws_eqPt Try.f158 (codeOf Try.f158) [.val true cPt false, .val true cPt false] [.val false (.one .bool) true] = fun a => laws_eqPt a.1 a.2 := by kernel_rfl
theorem m_laws_eqPt : Meets Try.prog 158 F_laws_eqPt := by
  have h := meets_of (ann := a_laws_eqPt) (ps := [.val true cPt false, .val true cPt false]) (rs := [.val false (.one .bool) true]) g_206 mixed Try.func158 (by kernel_rfl) (by kernel_rfl : Try.f158.body = some (codeOf Try.f158))
  rw [e_laws_eqPt] at h
  exact h
noncomputable def fns_158 : List (FuncId × Fn) := (158, F_laws_eqPt) :: fns_206
theorem g_158 : Good Try.prog ⟨tis, fns_158⟩ := g_206.cons m_laws_eqPt
noncomputable def laws_eqPtS_l0 (a0 : List Pt) (b1 : List Pt) (i5 : Int) : Option (Int ⊕ (Unit ⊕ Bool)) :=
  cond (decide (i5 < (a0.length : Int)))
    ((at? a0 i5).bind fun x19 =>
    (at? b1 i5).bind fun x23 =>
    (laws_eqPt x19 x23).bind fun t25 =>
    cond (!t25) (some (.inr (.inr false))) (some (.inl (w64 (i5 + 1)))))
    (some (.inr (.inl ())))
noncomputable def laws_eqPtS (a0 : List Pt) (b1 : List Pt) : Option Bool :=
  cond ((a0.length : Int) != (b1.length : Int))
    (some false)
    ((loop (fun z => laws_eqPtS_l0 a0 b1 z) 0).bind (Sum.elim (fun d =>
      some true) (fun r => some r)))
noncomputable def F_laws_eqPtS : Fn := ⟨[.val false (.one (.sl cPt)) false, .val false (.one (.sl cPt)) false], [.val false (.one .bool) true], fun a => laws_eqPtS a.1 a.2⟩
def a_laws_eqPtS : List (Nat × LoopAnn) := [(0, ⟨⟨[(5, false, [.dat (.int .i64)])], []⟩,
    ⟨[], []⟩, some ⟨[(4, false, [.dat .bool])], []⟩⟩)]
theorem e_laws_eqPtS : fnDen ⟨tis, fns_158⟩ a_laws_eqPtS Try.f81 (codeOf Try.f81) [.val false (.one (.sl cPt)) false, .val false (.one (.sl cPt)) false] [.val false (.one .bool) true] = fun a => laws_eqPtS a.1 a.2 := by kernel_rfl
theorem m_laws_eqPtS : Meets Try.prog 81 F_laws_eqPtS := by
  have h := meets_of (ann := a_laws_eqPtS) (ps := [.val false (.one (.sl cPt)) false, .val false (.one (.sl cPt)) false]) (rs := [.val false (.one .bool) true]) g_158 mixed Try.func81 (by kernel_rfl) (by kernel_rfl : Try.f81.body = some (codeOf Try.f81))
  rw [e_laws_eqPtS] at h
  exact h
noncomputable def fns_81 : List (FuncId × Fn) := (81, F_laws_eqPtS) :: fns_158
theorem g_81 : Good Try.prog ⟨tis, fns_81⟩ := g_158.cons m_laws_eqPtS
noncomputable def laws_eqFent (a0 : Fent) (b1 : Fent) : Option Bool :=
  cond (a0.1 != b1.1)
    (some false)
    (cond (a0.2.1 != b1.2.1)
      (some false)
      (cond (a0.2.2.1 != b1.2.2.1)
        (some false)
        (cond (a0.2.2.2.1 != b1.2.2.2.1)
          (some false)
          (cond (!(a0.2.2.2.2 == b1.2.2.2.2)) (some false) (some true)))))
noncomputable def F_laws_eqFent : Fn := ⟨[.val true cFent false, .val true cFent false], [.val false (.one .bool) true], fun a => laws_eqFent a.1 a.2⟩
def a_laws_eqFent : List (Nat × LoopAnn) := []
theorem e_laws_eqFent : fnDen ⟨tis, fns_81⟩ a_laws_eqFent Try.f159 (codeOf Try.f159) [.val true cFent false, .val true cFent false] [.val false (.one .bool) true] = fun a => laws_eqFent a.1 a.2 := by kernel_rfl
theorem m_laws_eqFent : Meets Try.prog 159 F_laws_eqFent := by
  have h := meets_of (ann := a_laws_eqFent) (ps := [.val true cFent false, .val true cFent false]) (rs := [.val false (.one .bool) true]) g_81 mixed Try.func159 (by kernel_rfl) (by kernel_rfl : Try.f159.body = some (codeOf Try.f159))
  rw [e_laws_eqFent] at h
  exact h
noncomputable def fns_159 : List (FuncId × Fn) := (159, F_laws_eqFent) :: fns_81
theorem g_159 : Good Try.prog ⟨tis, fns_159⟩ := g_81.cons m_laws_eqFent
noncomputable def laws_eqFentS_l0 (a0 : List Fent) (b1 : List Fent) (i5 : Int) : Option (Int ⊕ (Unit ⊕ Bool)) :=
  cond (decide (i5 < (a0.length : Int)))
    ((at? a0 i5).bind fun x19 =>
    (at? b1 i5).bind fun x23 =>
    (laws_eqFent x19 x23).bind fun t25 =>
    cond (!t25) (some (.inr (.inr false))) (some (.inl (w64 (i5 + 1)))))
    (some (.inr (.inl ())))
noncomputable def laws_eqFentS (a0 : List Fent) (b1 : List Fent) : Option Bool :=
  cond ((a0.length : Int) != (b1.length : Int))
    (some false)
    ((loop (fun z => laws_eqFentS_l0 a0 b1 z) 0).bind (Sum.elim (fun d =>
      some true) (fun r => some r)))
noncomputable def F_laws_eqFentS : Fn := ⟨[.val false (.one (.sl cFent)) false, .val false (.one (.sl cFent)) false], [.val false (.one .bool) true], fun a => laws_eqFentS a.1 a.2⟩
def a_laws_eqFentS : List (Nat × LoopAnn) := [(0, ⟨⟨[(5, false, [.dat (.int .i64)])], []⟩,
    ⟨[], []⟩, some ⟨[(4, false, [.dat .bool])], []⟩⟩)]
theorem e_laws_eqFentS : fnDen ⟨tis, fns_159⟩ a_laws_eqFentS Try.f82 (codeOf Try.f82) [.val false (.one (.sl cFent)) false, .val false (.one (.sl cFent)) false] [.val false (.one .bool) true] = fun a => laws_eqFentS a.1 a.2 := by kernel_rfl
theorem m_laws_eqFentS : Meets Try.prog 82 F_laws_eqFentS := by
  have h := meets_of (ann := a_laws_eqFentS) (ps := [.val false (.one (.sl cFent)) false, .val false (.one (.sl cFent)) false]) (rs := [.val false (.one .bool) true]) g_159 mixed Try.func82 (by kernel_rfl) (by kernel_rfl : Try.f82.body = some (codeOf Try.f82))
  rw [e_laws_eqFentS] at h
  exact h
noncomputable def fns_82 : List (FuncId × Fn) := (82, F_laws_eqFentS) :: fns_159
theorem g_82 : Good Try.prog ⟨tis, fns_82⟩ := g_159.cons m_laws_eqFentS
noncomputable def laws_eqVrow (a0 : Vrow) (b1 : Vrow) : Option Bool :=
  cond (a0.1 != b1.1)
    (some false)
    (cond (a0.2.1 != b1.2.1) (some false) (cond (a0.2.2 != b1.2.2) (some false) (some true)))
noncomputable def F_laws_eqVrow : Fn := ⟨[.val true cVrow false, .val true cVrow false], [.val false (.one .bool) true], fun a => laws_eqVrow a.1 a.2⟩
def a_laws_eqVrow : List (Nat × LoopAnn) := []
theorem e_laws_eqVrow : fnDen ⟨tis, fns_82⟩ a_laws_eqVrow Try.f207 (codeOf Try.f207) [.val true cVrow false, .val true cVrow false] [.val false (.one .bool) true] = fun a => laws_eqVrow a.1 a.2 := by kernel_rfl
theorem m_laws_eqVrow : Meets Try.prog 207 F_laws_eqVrow := by
  have h := meets_of (ann := a_laws_eqVrow) (ps := [.val true cVrow false, .val true cVrow false]) (rs := [.val false (.one .bool) true]) g_82 mixed Try.func207 (by kernel_rfl) (by kernel_rfl : Try.f207.body = some (codeOf Try.f207))
  rw [e_laws_eqVrow] at h
  exact h
noncomputable def fns_207 : List (FuncId × Fn) := (207, F_laws_eqVrow) :: fns_82
theorem g_207 : Good Try.prog ⟨tis, fns_207⟩ := g_82.cons m_laws_eqVrow
noncomputable def laws_eqVrowS_l0 (a0 : List Vrow) (b1 : List Vrow) (i5 : Int) : Option (Int ⊕ (Unit ⊕ Bool)) :=
  cond (decide (i5 < (a0.length : Int)))
    ((at? a0 i5).bind fun x19 =>
    (at? b1 i5).bind fun x23 =>
    (laws_eqVrow x19 x23).bind fun t25 =>
    cond (!t25) (some (.inr (.inr false))) (some (.inl (w64 (i5 + 1)))))
    (some (.inr (.inl ())))
noncomputable def laws_eqVrowS (a0 : List Vrow) (b1 : List Vrow) : Option Bool :=
  cond ((a0.length : Int) != (b1.length : Int))
    (some false)
    ((loop (fun z => laws_eqVrowS_l0 a0 b1 z) 0).bind (Sum.elim (fun d =>
      some true) (fun r => some r)))
noncomputable def F_laws_eqVrowS : Fn := ⟨[.val false (.one (.sl cVrow)) false, .val false (.one (.sl cVrow)) false], [.val false (.one .bool) true], fun a => laws_eqVrowS a.1 a.2⟩
def a_laws_eqVrowS : List (Nat × LoopAnn) := [(0, ⟨⟨[(5, false, [.dat (.int .i64)])], []⟩,
    ⟨[], []⟩, some ⟨[(4, false, [.dat .bool])], []⟩⟩)]
theorem e_laws_eqVrowS : fnDen ⟨tis, fns_207⟩ a_laws_eqVrowS Try.f160 (codeOf Try.f160) [.val false (.one (.sl cVrow)) false, .val false (.one (.sl cVrow)) false] [.val false (.one .bool) true] = fun a => laws_eqVrowS a.1 a.2 := by kernel_rfl
theorem m_laws_eqVrowS : Meets Try.prog 160 F_laws_eqVrowS := by
  have h := meets_of (ann := a_laws_eqVrowS) (ps := [.val false (.one (.sl cVrow)) false, .val false (.one (.sl cVrow)) false]) (rs := [.val false (.one .bool) true]) g_207 mixed Try.func160 (by kernel_rfl) (by kernel_rfl : Try.f160.body = some (codeOf Try.f160))
  rw [e_laws_eqVrowS] at h
  exact h
noncomputable def fns_160 : List (FuncId × Fn) := (160, F_laws_eqVrowS) :: fns_207
theorem g_160 : Good Try.prog ⟨tis, fns_160⟩ := g_207.cons m_laws_eqVrowS
noncomputable def laws_eqIntS_l0 (a0 : List Int) (b1 : List Int) (i5 : Int) : Option (Int ⊕ (Unit ⊕ Bool)) :=
  cond (decide (i5 < (a0.length : Int)))
    ((at? a0 i5).bind fun x19 =>
    (at? b1 i5).bind fun x23 =>
    cond (x19 != x23) (some (.inr (.inr false))) (some (.inl (w64 (i5 + 1)))))
    (some (.inr (.inl ())))
noncomputable def laws_eqIntS (a0 : List Int) (b1 : List Int) : Option Bool :=
  cond ((a0.length : Int) != (b1.length : Int))
    (some false)
    ((loop (fun z => laws_eqIntS_l0 a0 b1 z) 0).bind (Sum.elim (fun d =>
      some true) (fun r => some r)))
noncomputable def F_laws_eqIntS : Fn := ⟨[.val false (.one (.sl (.one (.int .i64)))) false, .val false (.one (.sl (.one (.int .i64)))) false], [.val false (.one .bool) true], fun a => laws_eqIntS a.1 a.2⟩
def a_laws_eqIntS : List (Nat × LoopAnn) := [(0, ⟨⟨[(5, false, [.dat (.int .i64)])], []⟩,
    ⟨[], []⟩, some ⟨[(4, false, [.dat .bool])], []⟩⟩)]
theorem e_laws_eqIntS : fnDen ⟨tis, fns_160⟩ a_laws_eqIntS Try.f161 (codeOf Try.f161) [.val false (.one (.sl (.one (.int .i64)))) false, .val false (.one (.sl (.one (.int .i64)))) false] [.val false (.one .bool) true] = fun a => laws_eqIntS a.1 a.2 := by kernel_rfl
theorem m_laws_eqIntS : Meets Try.prog 161 F_laws_eqIntS := by
  have h := meets_of (ann := a_laws_eqIntS) (ps := [.val false (.one (.sl (.one (.int .i64)))) false, .val false (.one (.sl (.one (.int .i64)))) false]) (rs := [.val false (.one .bool) true]) g_160 mixed Try.func161 (by kernel_rfl) (by kernel_rfl : Try.f161.body = some (codeOf Try.f161))
  rw [e_laws_eqIntS] at h
  exact h
noncomputable def fns_161 : List (FuncId × Fn) := (161, F_laws_eqIntS) :: fns_160
theorem g_161 : Good Try.prog ⟨tis, fns_161⟩ := g_160.cons m_laws_eqIntS
noncomputable def laws_eqVtab (a0 : Vtab) (b1 : Vtab) : Option Bool :=
  (laws_eqVrowS a0.1 b1.1).bind fun t9 =>
  cond (!t9)
    (some false)
    ((laws_eqIntS a0.2 b1.2).bind fun t15 =>
    cond (!t15) (some false) (some true))
noncomputable def F_laws_eqVtab : Fn := ⟨[.val true cVtab false, .val true cVtab false], [.val false (.one .bool) true], fun a => laws_eqVtab a.1 a.2⟩
def a_laws_eqVtab : List (Nat × LoopAnn) := []
theorem e_laws_eqVtab : fnDen ⟨tis, fns_161⟩ a_laws_eqVtab Try.f83 (codeOf Try.f83) [.val true cVtab false, .val true cVtab false] [.val false (.one .bool) true] = fun a => laws_eqVtab a.1 a.2 := by kernel_rfl
theorem m_laws_eqVtab : Meets Try.prog 83 F_laws_eqVtab := by
  have h := meets_of (ann := a_laws_eqVtab) (ps := [.val true cVtab false, .val true cVtab false]) (rs := [.val false (.one .bool) true]) g_161 mixed Try.func83 (by kernel_rfl) (by kernel_rfl : Try.f83.body = some (codeOf Try.f83))
  rw [e_laws_eqVtab] at h
  exact h
noncomputable def fns_83 : List (FuncId × Fn) := (83, F_laws_eqVtab) :: fns_161
theorem g_83 : Good Try.prog ⟨tis, fns_83⟩ := g_161.cons m_laws_eqVtab
noncomputable def laws_eqBridge (a0 : Bridge) (b1 : Bridge) : Option Bool :=
  cond (a0.1 != b1.1)
    (some false)
    (cond (!(a0.2.1 == b1.2.1))
      (some false)
      ((laws_eqPtS a0.2.2.1 b1.2.2.1).bind fun t19 =>
      cond (!t19)
        (some false)
        ((laws_eqFentS a0.2.2.2.1 b1.2.2.2.1).bind fun t25 =>
        cond (!t25)
          (some false)
          ((laws_eqVtab (a0.2.2.2.2.1, a0.2.2.2.2.2.1) (b1.2.2.2.2.1, b1.2.2.2.2.2.1)).bind fun t31 =>
          cond (!t31)
            (some false)
            (cond (a0.2.2.2.2.2.2.1 != b1.2.2.2.2.2.2.1)
              (some false)
              (cond (a0.2.2.2.2.2.2.2.1 != b1.2.2.2.2.2.2.2.1)
                (some false)
                (cond (a0.2.2.2.2.2.2.2.2.1 != b1.2.2.2.2.2.2.2.2.1)
                  (some false)
                  (cond (a0.2.2.2.2.2.2.2.2.2.1 != b1.2.2.2.2.2.2.2.2.2.1)
                    (some false)
                    (cond (a0.2.2.2.2.2.2.2.2.2.2 != b1.2.2.2.2.2.2.2.2.2.2) (some false) (some true))))))))))
noncomputable def F_laws_eqBridge : Fn := ⟨[.val true cBridge false, .val true cBridge false], [.val false (.one .bool) true], fun a => laws_eqBridge a.1 a.2⟩
def a_laws_eqBridge : List (Nat × LoopAnn) := []
theorem e_laws_eqBridge : fnDen ⟨tis, fns_83⟩ a_laws_eqBridge Try.f22 (codeOf Try.f22) [.val true cBridge false, .val true cBridge false] [.val false (.one .bool) true] = fun a => laws_eqBridge a.1 a.2 := by kernel_rfl
theorem m_laws_eqBridge : Meets Try.prog 22 F_laws_eqBridge := by
  have h := meets_of (ann := a_laws_eqBridge) (ps := [.val true cBridge false, .val true cBridge false]) (rs := [.val false (.one .bool) true]) g_83 mixed Try.func22 (by kernel_rfl) (by kernel_rfl : Try.f22.body = some (codeOf Try.f22))
  rw [e_laws_eqBridge] at h
  exact h
noncomputable def fns_22 : List (FuncId × Fn) := (22, F_laws_eqBridge) :: fns_83
theorem g_22 : Good Try.prog ⟨tis, fns_22⟩ := g_83.cons m_laws_eqBridge
noncomputable def spec_l1In (x0 : Int) (least1 : Int) (most2 : Int) : Option Bool :=
  (cond (decide (x0 ≥ least1)) (some (decide (x0 ≤ most2))) (some false)).bind fun t14 =>
  some t14
noncomputable def F_spec_l1In : Fn := ⟨[.val false (.one (.int .i64)) false, .val false (.one (.int .i64)) false, .val false (.one (.int .i64)) false], [.val false (.one .bool) true], fun a => spec_l1In a.1 a.2.1 a.2.2⟩
def a_spec_l1In : List (Nat × LoopAnn) := []
theorem e_spec_l1In : fnDen ⟨tis, fns_22⟩ a_spec_l1In Try.f144 (codeOf Try.f144) [.val false (.one (.int .i64)) false, .val false (.one (.int .i64)) false, .val false (.one (.int .i64)) false] [.val false (.one .bool) true] = fun a => spec_l1In a.1 a.2.1 a.2.2 := by kernel_rfl
theorem m_spec_l1In : Meets Try.prog 144 F_spec_l1In := by
  have h := meets_of (ann := a_spec_l1In) (ps := [.val false (.one (.int .i64)) false, .val false (.one (.int .i64)) false, .val false (.one (.int .i64)) false]) (rs := [.val false (.one .bool) true]) g_22 mixed Try.func144 (by kernel_rfl) (by kernel_rfl : Try.f144.body = some (codeOf Try.f144))
  rw [e_spec_l1In] at h
  exact h
noncomputable def fns_144 : List (FuncId × Fn) := (144, F_spec_l1In) :: fns_22
theorem g_144 : Good Try.prog ⟨tis, fns_144⟩ := g_22.cons m_spec_l1In
noncomputable def spec_VecOk (v0 : Vec) : Option Bool :=
  (spec_l1In v0.1 1 99).bind fun t5 =>
  (cond t5
    ((spec_l1In v0.2.1 0 100000).bind fun t9 =>
    some t9)
    (some false)).bind fun t10 =>
  (cond t10
    ((spec_l1In v0.2.2.1 0 10).bind fun t14 =>
    some t14)
    (some false)).bind fun t15 =>
  (cond t15
    ((spec_l1In v0.2.2.2.1 1 99).bind fun t19 =>
    some t19)
    (some false)).bind fun t20 =>
  (cond t20
    ((spec_l1In v0.2.2.2.2 0 7).bind fun t24 =>
    some t24)
    (some false)).bind fun t25 =>
  some t25
noncomputable def F_spec_VecOk : Fn := ⟨[.val true cVec false], [.val false (.one .bool) true], fun a => spec_VecOk a⟩
def a_spec_VecOk : List (Nat × LoopAnn) := []
theorem e_spec_VecOk : fnDen ⟨tis, fns_144⟩ a_spec_VecOk Try.f228 (codeOf Try.f228) [.val true cVec false] [.val false (.one .bool) true] = fun a => spec_VecOk a := by kernel_rfl
theorem m_spec_VecOk : Meets Try.prog 228 F_spec_VecOk := by
  have h := meets_of (ann := a_spec_VecOk) (ps := [.val true cVec false]) (rs := [.val false (.one .bool) true]) g_144 mixed Try.func228 (by kernel_rfl) (by kernel_rfl : Try.f228.body = some (codeOf Try.f228))
  rw [e_spec_VecOk] at h
  exact h
noncomputable def fns_228 : List (FuncId × Fn) := (228, F_spec_VecOk) :: fns_144
theorem g_228 : Good Try.prog ⟨tis, fns_228⟩ := g_144.cons m_spec_VecOk
noncomputable def spec_PtOk (p0 : Pt) : Option Bool :=
  (spec_l1In p0.2.1 1 1000).bind fun t5 =>
  (cond (!t5)
    (some true)
    ((cond (!p0.1) (some p0.2.2.1) (some false)).bind fun t14 =>
    some t14)).bind fun t15 =>
  cond t15
    (some false)
    (cond (!p0.2.2.1)
      (let t2 := p0.2.2.2.1 == 0 && (p0.2.2.2.2.1 == 0 && (p0.2.2.2.2.2.1 == 0 && (p0.2.2.2.2.2.2.1 == 0 && (p0.2.2.2.2.2.2.2 == 0))))
      some t2)
      ((spec_VecOk p0.2.2.2).bind fun t25 =>
      some t25))
noncomputable def F_spec_PtOk : Fn := ⟨[.val true cPt false], [.val false (.one .bool) true], fun a => spec_PtOk a⟩
def a_spec_PtOk : List (Nat × LoopAnn) := []
theorem e_spec_PtOk : fnDen ⟨tis, fns_228⟩ a_spec_PtOk Try.f192 (codeOf Try.f192) [.val true cPt false] [.val false (.one .bool) true] = fun a => spec_PtOk a := by kernel_rfl
theorem m_spec_PtOk : Meets Try.prog 192 F_spec_PtOk := by
  have h := meets_of (ann := a_spec_PtOk) (ps := [.val true cPt false]) (rs := [.val false (.one .bool) true]) g_228 mixed Try.func192 (by kernel_rfl) (by kernel_rfl : Try.f192.body = some (codeOf Try.f192))
  rw [e_spec_PtOk] at h
  exact h
noncomputable def fns_192 : List (FuncId × Fn) := (192, F_spec_PtOk) :: fns_228
theorem g_192 : Good Try.prog ⟨tis, fns_192⟩ := g_228.cons m_spec_PtOk
noncomputable def spec_l8Ent (e0 : Fent) : Option Bool :=
  (spec_l1In e0.1 1 99).bind fun t5 =>
  (cond t5
    ((spec_l1In e0.2.1 1 9999).bind fun t9 =>
    some t9)
    (some false)).bind fun t10 =>
  (cond t10
    ((spec_l1In e0.2.2.1 0 7).bind fun t14 =>
    some t14)
    (some false)).bind fun t15 =>
  (cond t15
    ((spec_l1In e0.2.2.2.1 0 4).bind fun t19 =>
    some t19)
    (some false)).bind fun t20 =>
  (cond t20
    ((cond (!e0.2.2.2.2) (some true) (some (e0.2.2.2.1 == 0))).bind fun t29 =>
    some t29)
    (some false)).bind fun t30 =>
  some t30
noncomputable def F_spec_l8Ent : Fn := ⟨[.val true cFent false], [.val false (.one .bool) true], fun a => spec_l8Ent a⟩
def a_spec_l8Ent : List (Nat × LoopAnn) := []
theorem e_spec_l8Ent : fnDen ⟨tis, fns_192⟩ a_spec_l8Ent Try.f225 (codeOf Try.f225) [.val true cFent false] [.val false (.one .bool) true] = fun a => spec_l8Ent a := by kernel_rfl
theorem m_spec_l8Ent : Meets Try.prog 225 F_spec_l8Ent := by
  have h := meets_of (ann := a_spec_l8Ent) (ps := [.val true cFent false]) (rs := [.val false (.one .bool) true]) g_192 mixed Try.func225 (by kernel_rfl) (by kernel_rfl : Try.f225.body = some (codeOf Try.f225))
  rw [e_spec_l8Ent] at h
  exact h
noncomputable def fns_225 : List (FuncId × Fn) := (225, F_spec_l8Ent) :: fns_192
theorem g_225 : Good Try.prog ⟨tis, fns_225⟩ := g_192.cons m_spec_l8Ent
noncomputable def spec_l8Ahead (e0 : Fent) (tag1 : Int) (mac2 : Int) : Option Bool :=
  cond (e0.1 != tag1) (some (decide (e0.1 < tag1))) (some (decide (e0.2.1 < mac2)))
noncomputable def F_spec_l8Ahead : Fn := ⟨[.val true cFent false, .val false (.one (.int .i64)) false, .val false (.one (.int .i64)) false], [.val false (.one .bool) true], fun a => spec_l8Ahead a.1 a.2.1 a.2.2⟩
def a_spec_l8Ahead : List (Nat × LoopAnn) := []
theorem e_spec_l8Ahead : fnDen ⟨tis, fns_225⟩ a_spec_l8Ahead Try.f229 (codeOf Try.f229) [.val true cFent false, .val false (.one (.int .i64)) false, .val false (.one (.int .i64)) false] [.val false (.one .bool) true] = fun a => spec_l8Ahead a.1 a.2.1 a.2.2 := by kernel_rfl
theorem m_spec_l8Ahead : Meets Try.prog 229 F_spec_l8Ahead := by
  have h := meets_of (ann := a_spec_l8Ahead) (ps := [.val true cFent false, .val false (.one (.int .i64)) false, .val false (.one (.int .i64)) false]) (rs := [.val false (.one .bool) true]) g_225 mixed Try.func229 (by kernel_rfl) (by kernel_rfl : Try.f229.body = some (codeOf Try.f229))
  rw [e_spec_l8Ahead] at h
  exact h
noncomputable def fns_229 : List (FuncId × Fn) := (229, F_spec_l8Ahead) :: fns_225
theorem g_229 : Good Try.prog ⟨tis, fns_229⟩ := g_225.cons m_spec_l8Ahead
noncomputable def spec_FdbOk_l0 (l0 : List Fent) (i3 : Int) : Option (Int ⊕ (Unit ⊕ Bool)) :=
  cond (decide (i3 < (l0.length : Int)))
    ((at? l0 i3).bind fun x12 =>
    (spec_l8Ent x12).bind fun t14 =>
    (cond (!t14)
      (some true)
      ((cond (decide (i3 > 0))
        ((at? l0 (w64 (i3 - 1))).bind fun x23 =>
        (at? l0 i3).bind fun x27 =>
        (at? l0 i3).bind fun x32 =>
        (spec_l8Ahead x23 x27.1 x32.2.1).bind fun t35 =>
        some (!t35))
        (some false)).bind fun t37 =>
      some t37)).bind fun t38 =>
    cond t38 (some (.inr (.inr false))) (some (.inl (w64 (i3 + 1)))))
    (some (.inr (.inl ())))
noncomputable def spec_FdbOk (l0 : List Fent) : Option Bool :=
  (loop (fun z => spec_FdbOk_l0 l0 z) 0).bind (Sum.elim (fun d =>
    let t2 := decide ((l0.length : Int) ≤ 12)
    some t2) (fun r => some r))
noncomputable def F_spec_FdbOk : Fn := ⟨[.val false (.one (.sl cFent)) false], [.val false (.one .bool) true], fun a => spec_FdbOk a⟩
def a_spec_FdbOk : List (Nat × LoopAnn) := [(0, ⟨⟨[(3, false, [.dat (.int .i64)]), (17, false, [.undef]), (18, false, [.undef]), (19, false, [.undef]), (20, false, [.undef]), (21, false, [.undef]), (22, false, [.undef]), (23, false, [.undef]), (24, false, [.undef]), (25, false, [.undef]), (26, false, [.undef]), (27, false, [.undef]), (28, false, [.undef]), (29, false, [.undef]), (30, false, [.undef]), (31, false, [.undef]), (32, false, [.undef]), (33, false, [.undef]), (34, false, [.undef]), (35, false, [.undef]), (36, false, [.undef]), (37, false, [.undef])], []⟩,
    ⟨[], []⟩, some ⟨[(2, false, [.dat .bool])], []⟩⟩)]
theorem e_spec_FdbOk : fnDen ⟨tis, fns_229⟩ a_spec_FdbOk Try.f193 (codeOf Try.f193) [.val false (.one (.sl cFent)) false] [.val false (.one .bool) true] = fun a => spec_FdbOk a := by kernel_rfl
theorem m_spec_FdbOk : Meets Try.prog 193 F_spec_FdbOk := by
  have h := meets_of (ann := a_spec_FdbOk) (ps := [.val false (.one (.sl cFent)) false]) (rs := [.val false (.one .bool) true]) g_229 mixed Try.func193 (by kernel_rfl) (by kernel_rfl : Try.f193.body = some (codeOf Try.f193))
  rw [e_spec_FdbOk] at h
  exact h
noncomputable def fns_193 : List (FuncId × Fn) := (193, F_spec_FdbOk) :: fns_229
theorem g_193 : Good Try.prog ⟨tis, fns_193⟩ := g_229.cons m_spec_FdbOk
noncomputable def spec_RowAt_l0 (v0 : Vtab) (id1 : Int) (i5 : Int) : Option (Int ⊕ (Unit ⊕ Int)) :=
  cond (decide (i5 < (v0.1.length : Int)))
    ((at? v0.1 i5).bind fun x16 =>
    cond (x16.1 == id1) (some (.inr (.inr i5))) (some (.inl (w64 (i5 + 1)))))
    (some (.inr (.inl ())))
noncomputable def spec_RowAt (v0 : Vtab) (id1 : Int) : Option Int :=
  (loop (fun z => spec_RowAt_l0 v0 id1 z) 0).bind (Sum.elim (fun d =>
    some (-1)) (fun r => some r))
noncomputable def F_spec_RowAt : Fn := ⟨[.val true cVtab false, .val false (.one (.int .i64)) false], [.val false (.one (.int .i64)) true], fun a => spec_RowAt a.1 a.2⟩
def a_spec_RowAt : List (Nat × LoopAnn) := [(0, ⟨⟨[(5, false, [.dat (.int .i64)])], []⟩,
    ⟨[], []⟩, some ⟨[(4, false, [.dat (.int .i64)])], []⟩⟩)]
theorem e_spec_RowAt : fnDen ⟨tis, fns_193⟩ a_spec_RowAt Try.f230 (codeOf Try.f230) [.val true cVtab false, .val false (.one (.int .i64)) false] [.val false (.one (.int .i64)) true] = fun a => spec_RowAt a.1 a.2 := by kernel_rfl
theorem m_spec_RowAt : Meets Try.prog 230 F_spec_RowAt := by
  have h := meets_of (ann := a_spec_RowAt) (ps := [.val true cVtab false, .val false (.one (.int .i64)) false]) (rs := [.val false (.one (.int .i64)) true]) g_193 mixed Try.func230 (by kernel_rfl) (by kernel_rfl : Try.f230.body = some (codeOf Try.f230))
  rw [e_spec_RowAt] at h
  exact h
noncomputable def fns_230 : List (FuncId × Fn) := (230, F_spec_RowAt) :: fns_193
theorem g_230 : Good Try.prog ⟨tis, fns_230⟩ := g_193.cons m_spec_RowAt
noncomputable def spec_VtabOk_l0 (p0 : Vtab) (t27 : Int) (t6 : Int) : Option (Int ⊕ (Unit ⊕ Bool)) :=
  cond (decide (t6 < (p0.1.length : Int)))
    ((at? p0.1 t6).bind fun x39 =>
    (spec_l1In x39.1 1 99).bind fun t43 =>
    (cond (!t43)
      (some true)
      ((spec_l1In x39.2.1 0 (w64 (t27 - 1))).bind fun t49 =>
      some (!t49))).bind fun t51 =>
    (cond t51
      (some true)
      ((spec_l1In x39.2.2 0 (w64 (t27 - 1))).bind fun t56 =>
      some (!t56))).bind fun t58 =>
    (cond t58 (some true) (some ((band .i64 x39.2.2 x39.2.1) != x39.2.2))).bind fun t68 =>
    (cond t68
      (some true)
      ((cond (decide (t6 > 0))
        ((at? p0.1 (w64 (t6 - 1))).bind fun x77 =>
        some (decide (x77.1 ≥ x39.1)))
        (some false)).bind fun t83 =>
      some t83)).bind fun t84 =>
    cond t84 (some (.inr (.inr false))) (some (.inl (w64 (t6 + 1)))))
    (some (.inr (.inl ())))
noncomputable def spec_VtabOk_l2 (p0 : Vtab) (t8 : Int) : Option (Int ⊕ (Unit ⊕ Bool)) :=
  cond (decide (t8 < (p0.2.length : Int)))
    ((at? p0.2 t8).bind fun x96 =>
    (spec_RowAt p0 x96).bind fun t98 =>
    cond (decide (t98 < 0)) (some (.inr (.inr false))) (some (.inl (w64 (t8 + 1)))))
    (some (.inr (.inl ())))
noncomputable def spec_VtabOk (p0 : Vtab) (i1 : Int) : Option Bool :=
  (spec_l1In i1 1 6).bind fun t10 =>
  (cond (!t10) (some true) (some ((p0.2.length : Int) != i1))).bind fun t18 =>
  (cond t18 (some true) (some (decide ((p0.1.length : Int) > 6)))).bind fun t24 =>
  cond t24
    (some false)
    ((shl .i64 1 (IntKind.u64.wrap (i1))).bind fun t27 =>
    (loop (fun z => spec_VtabOk_l0 p0 t27 z) 0).bind (Sum.elim (fun d =>
      (loop (fun z => spec_VtabOk_l2 p0 z) 0).bind (Sum.elim (fun d_1 =>
        some true) (fun r => some r))) (fun r_1 => some r_1)))
noncomputable def F_spec_VtabOk : Fn := ⟨[.val true cVtab false, .val false (.one (.int .i64)) false], [.val false (.one .bool) true], fun a => spec_VtabOk a.1 a.2⟩
def a_spec_VtabOk : List (Nat × LoopAnn) := [(0, ⟨⟨[(6, false, [.dat (.int .i64)]), (46, false, [.undef]), (47, false, [.undef]), (48, false, [.undef]), (49, false, [.undef]), (50, false, [.undef]), (53, false, [.undef]), (54, false, [.undef]), (55, false, [.undef]), (56, false, [.undef]), (57, false, [.undef]), (60, false, [.undef]), (61, false, [.undef]), (62, false, [.undef]), (63, false, [.undef]), (64, false, [.undef]), (65, false, [.undef]), (66, false, [.undef]), (67, false, [.undef]), (70, false, [.undef]), (71, false, [.undef]), (72, false, [.undef]), (73, false, [.undef]), (74, false, [.undef]), (75, false, [.undef]), (76, false, [.undef]), (77, false, [.undef]), (78, false, [.undef]), (79, false, [.undef]), (80, false, [.undef]), (81, false, [.undef]), (82, false, [.undef]), (83, false, [.undef])], []⟩,
    ⟨[], []⟩, some ⟨[(4, false, [.dat .bool])], []⟩⟩),
  (2, ⟨⟨[(8, false, [.dat (.int .i64)])], []⟩,
    ⟨[], []⟩, some ⟨[(4, false, [.dat .bool])], []⟩⟩)]
theorem e_spec_VtabOk : fnDen ⟨tis, fns_230⟩ a_spec_VtabOk Try.f194 (codeOf Try.f194) [.val true cVtab false, .val false (.one (.int .i64)) false] [.val false (.one .bool) true] = fun a => spec_VtabOk a.1 a.2 := by kernel_rfl
theorem m_spec_VtabOk : Meets Try.prog 194 F_spec_VtabOk := by
  have h := meets_of (ann := a_spec_VtabOk) (ps := [.val true cVtab false, .val false (.one (.int .i64)) false]) (rs := [.val false (.one .bool) true]) g_230 mixed Try.func194 (by kernel_rfl) (by kernel_rfl : Try.f194.body = some (codeOf Try.f194))
  rw [e_spec_VtabOk] at h
  exact h
noncomputable def fns_194 : List (FuncId × Fn) := (194, F_spec_VtabOk) :: fns_230
theorem g_194 : Good Try.prog ⟨tis, fns_194⟩ := g_230.cons m_spec_VtabOk
noncomputable def spec_l11Counts (b0 : Bridge) : Option Bool :=
  (spec_l1In b0.2.2.2.2.2.2.1 0 1000000).bind fun t5 =>
  (cond t5
    ((spec_l1In b0.2.2.2.2.2.2.2.1 0 1000000).bind fun t9 =>
    some t9)
    (some false)).bind fun t10 =>
  (cond t10
    ((spec_l1In b0.2.2.2.2.2.2.2.2.1 0 1000000).bind fun t14 =>
    some t14)
    (some false)).bind fun t15 =>
  (cond t15
    ((spec_l1In b0.2.2.2.2.2.2.2.2.2.1 0 1000000).bind fun t19 =>
    some t19)
    (some false)).bind fun t20 =>
  (cond t20
    ((spec_l1In b0.2.2.2.2.2.2.2.2.2.2 0 1000000).bind fun t24 =>
    some t24)
    (some false)).bind fun t25 =>
  some t25
noncomputable def F_spec_l11Counts : Fn := ⟨[.val true cBridge false], [.val false (.one .bool) true], fun a => spec_l11Counts a⟩
def a_spec_l11Counts : List (Nat × LoopAnn) := []
theorem e_spec_l11Counts : fnDen ⟨tis, fns_194⟩ a_spec_l11Counts Try.f195 (codeOf Try.f195) [.val true cBridge false] [.val false (.one .bool) true] = fun a => spec_l11Counts a := by kernel_rfl
theorem m_spec_l11Counts : Meets Try.prog 195 F_spec_l11Counts := by
  have h := meets_of (ann := a_spec_l11Counts) (ps := [.val true cBridge false]) (rs := [.val false (.one .bool) true]) g_194 mixed Try.func195 (by kernel_rfl) (by kernel_rfl : Try.f195.body = some (codeOf Try.f195))
  rw [e_spec_l11Counts] at h
  exact h
noncomputable def fns_195 : List (FuncId × Fn) := (195, F_spec_l11Counts) :: fns_194
theorem g_195 : Good Try.prog ⟨tis, fns_195⟩ := g_194.cons m_spec_l11Counts
noncomputable def spec_BridgeOk_l0 (b0 : Bridge) (i3 : Int) : Option (Int ⊕ (Unit ⊕ Bool)) :=
  cond (decide (i3 < (b0.2.2.1.length : Int)))
    ((at? b0.2.2.1 i3).bind fun x14 =>
    (spec_PtOk x14).bind fun t16 =>
    cond (!t16) (some (.inr (.inr false))) (some (.inl (w64 (i3 + 1)))))
    (some (.inr (.inl ())))
noncomputable def spec_BridgeOk (b0 : Bridge) : Option Bool :=
  (loop (fun z => spec_BridgeOk_l0 b0 z) 0).bind (Sum.elim (fun d =>
    (spec_l1In b0.1 1 99).bind fun t20 =>
    (cond t20 (some (decide ((b0.2.1.length : Int) ≤ 10))) (some false)).bind fun t26 =>
    (cond t26
      ((spec_l1In (b0.2.2.1.length : Int) 1 6).bind fun t31 =>
      some t31)
      (some false)).bind fun t32 =>
    (cond t32
      ((spec_FdbOk b0.2.2.2.1).bind fun t36 =>
      some t36)
      (some false)).bind fun t37 =>
    (cond t37
      ((spec_VtabOk (b0.2.2.2.2.1, b0.2.2.2.2.2.1) (b0.2.2.1.length : Int)).bind fun t44 =>
      some t44)
      (some false)).bind fun t45 =>
    (cond t45
      ((spec_l11Counts b0).bind fun t48 =>
      some t48)
      (some false)).bind fun t49 =>
    some t49) (fun r => some r))
noncomputable def F_spec_BridgeOk : Fn := ⟨[.val true cBridge false], [.val false (.one .bool) true], fun a => spec_BridgeOk a⟩
def a_spec_BridgeOk : List (Nat × LoopAnn) := [(0, ⟨⟨[(3, false, [.dat (.int .i64)])], []⟩,
    ⟨[], []⟩, some ⟨[(2, false, [.dat .bool])], []⟩⟩)]
theorem e_spec_BridgeOk : fnDen ⟨tis, fns_195⟩ a_spec_BridgeOk Try.f122 (codeOf Try.f122) [.val true cBridge false] [.val false (.one .bool) true] = fun a => spec_BridgeOk a := by kernel_rfl
theorem m_spec_BridgeOk : Meets Try.prog 122 F_spec_BridgeOk := by
  have h := meets_of (ann := a_spec_BridgeOk) (ps := [.val true cBridge false]) (rs := [.val false (.one .bool) true]) g_195 mixed Try.func122 (by kernel_rfl) (by kernel_rfl : Try.f122.body = some (codeOf Try.f122))
  rw [e_spec_BridgeOk] at h
  exact h
noncomputable def fns_122 : List (FuncId × Fn) := (122, F_spec_BridgeOk) :: fns_195
theorem g_122 : Good Try.prog ⟨tis, fns_122⟩ := g_195.cons m_spec_BridgeOk
noncomputable def spec_l17Name (l0 : List Int) : Option (List Int) :=
  (app ([1, 3, 1] : List Int) l0).bind fun zs5 =>
  some zs5
noncomputable def F_spec_l17Name : Fn := ⟨[.val false (.one (.sl (.one (.int .i64)))) false], [.val false (.one (.sl (.one (.int .i64)))) true], fun a => spec_l17Name a⟩
def a_spec_l17Name : List (Nat × LoopAnn) := []
theorem e_spec_l17Name : fnDen ⟨tis, fns_122⟩ a_spec_l17Name Try.f123 (codeOf Try.f123) [.val false (.one (.sl (.one (.int .i64)))) false] [.val false (.one (.sl (.one (.int .i64)))) true] = fun a => spec_l17Name a := by kernel_rfl
theorem m_spec_l17Name : Meets Try.prog 123 F_spec_l17Name := by
  have h := meets_of (ann := a_spec_l17Name) (ps := [.val false (.one (.sl (.one (.int .i64)))) false]) (rs := [.val false (.one (.sl (.one (.int .i64)))) true]) g_122 mixed Try.func123 (by kernel_rfl) (by kernel_rfl : Try.f123.body = some (codeOf Try.f123))
  rw [e_spec_l17Name] at h
  exact h
noncomputable def fns_123 : List (FuncId × Fn) := (123, F_spec_l17Name) :: fns_122
theorem g_123 : Good Try.prog ⟨tis, fns_123⟩ := g_122.cons m_spec_l17Name
noncomputable def spec_l3Int (n0 : Int) : Option Val :=
  some (2, n0, [], [])
noncomputable def F_spec_l3Int : Fn := ⟨[.val false (.one (.int .i64)) false], [.val true cVal true], fun a => spec_l3Int a⟩
def a_spec_l3Int : List (Nat × LoopAnn) := []
theorem e_spec_l3Int : fnDen ⟨tis, fns_123⟩ a_spec_l3Int Try.f196 (codeOf Try.f196) [.val false (.one (.int .i64)) false] [.val true cVal true] = fun a => spec_l3Int a := by kernel_rfl
theorem m_spec_l3Int : Meets Try.prog 196 F_spec_l3Int := by
  have h := meets_of (ann := a_spec_l3Int) (ps := [.val false (.one (.int .i64)) false]) (rs := [.val true cVal true]) g_123 mixed Try.func196 (by kernel_rfl) (by kernel_rfl : Try.f196.body = some (codeOf Try.f196))
  rw [e_spec_l3Int] at h
  exact h
noncomputable def fns_196 : List (FuncId × Fn) := (196, F_spec_l3Int) :: fns_123
theorem g_196 : Good Try.prog ⟨tis, fns_196⟩ := g_123.cons m_spec_l3Int
noncomputable def spec_l17Add (out0 : List Bind) (name1 : List Int) (n2 : Int) : Option (List Bind) :=
  (spec_l17Name name1).bind fun t9 =>
  (spec_l3Int n2).bind fun t11 =>
  (app out0 [(t9, t11.1, t11.2.1, t11.2.2.1, t11.2.2.2)]).bind fun zs14 =>
  some zs14
noncomputable def F_spec_l17Add : Fn := ⟨[.val false (.one (.sl cBind)) true, .val false (.one (.sl (.one (.int .i64)))) false, .val false (.one (.int .i64)) false], [.val false (.one (.sl cBind)) true], fun a => spec_l17Add a.1 a.2.1 a.2.2⟩
def a_spec_l17Add : List (Nat × LoopAnn) := []
theorem e_spec_l17Add : fnDen ⟨tis, fns_196⟩ a_spec_l17Add Try.f124 (codeOf Try.f124) [.val false (.one (.sl cBind)) true, .val false (.one (.sl (.one (.int .i64)))) false, .val false (.one (.int .i64)) false] [.val false (.one (.sl cBind)) true] = fun a => spec_l17Add a.1 a.2.1 a.2.2 := by kernel_rfl
theorem m_spec_l17Add : Meets Try.prog 124 F_spec_l17Add := by
  have h := meets_of (ann := a_spec_l17Add) (ps := [.val false (.one (.sl cBind)) true, .val false (.one (.sl (.one (.int .i64)))) false, .val false (.one (.int .i64)) false]) (rs := [.val false (.one (.sl cBind)) true]) g_196 mixed Try.func124 (by kernel_rfl) (by kernel_rfl : Try.f124.body = some (codeOf Try.f124))
  rw [e_spec_l17Add] at h
  exact h
noncomputable def fns_124 : List (FuncId × Fn) := (124, F_spec_l17Add) :: fns_196
theorem g_124 : Good Try.prog ⟨tis, fns_124⟩ := g_196.cons m_spec_l17Add
noncomputable def spec_LessVec (a0 : Vec) (b1 : Vec) : Option Bool :=
  cond (a0.1 != b1.1)
    (some (decide (a0.1 < b1.1)))
    (cond (a0.2.1 != b1.2.1)
      (some (decide (a0.2.1 < b1.2.1)))
      (cond (a0.2.2.2.1 != b1.2.2.2.1)
        (let t4 := decide (a0.2.2.2.1 < b1.2.2.2.1)
        some t4)
        (let t4_1 := decide (a0.2.2.2.2 < b1.2.2.2.2)
        some t4_1)))
noncomputable def F_spec_LessVec : Fn := ⟨[.val true cVec false, .val true cVec false], [.val false (.one .bool) true], fun a => spec_LessVec a.1 a.2⟩
def a_spec_LessVec : List (Nat × LoopAnn) := []
theorem e_spec_LessVec : fnDen ⟨tis, fns_124⟩ a_spec_LessVec Try.f146 (codeOf Try.f146) [.val true cVec false, .val true cVec false] [.val false (.one .bool) true] = fun a => spec_LessVec a.1 a.2 := by kernel_rfl
theorem m_spec_LessVec : Meets Try.prog 146 F_spec_LessVec := by
  have h := meets_of (ann := a_spec_LessVec) (ps := [.val true cVec false, .val true cVec false]) (rs := [.val false (.one .bool) true]) g_124 mixed Try.func146 (by kernel_rfl) (by kernel_rfl : Try.f146.body = some (codeOf Try.f146))
  rw [e_spec_LessVec] at h
  exact h
noncomputable def fns_146 : List (FuncId × Fn) := (146, F_spec_LessVec) :: fns_124
theorem g_146 : Good Try.prog ⟨tis, fns_146⟩ := g_124.cons m_spec_LessVec
noncomputable def spec_StepVec (v0 : Vec) (cost1 : Int) : Option (Vec × Bool) :=
  (spec_VecOk v0).bind fun t8 =>
  (cond (!t8)
    (some true)
    ((spec_l1In cost1 1 1000).bind fun t12 =>
    some (!t12))).bind fun t14 =>
  cond t14
    (some (v0, false))
    ((spec_VecOk (v0.1, w64 (v0.2.1 + cost1), w64 (v0.2.2.1 + 1), v0.2.2.2.1, v0.2.2.2.2)).bind fun t27 =>
    cond (!t27)
      (some (v0, false))
      (some ((v0.1, w64 (v0.2.1 + cost1), w64 (v0.2.2.1 + 1), v0.2.2.2.1, v0.2.2.2.2), true)))
noncomputable def F_spec_StepVec : Fn := ⟨[.val true cVec false, .val false (.one (.int .i64)) false], [.val true cVec true, .val false (.one .bool) true], fun a => spec_StepVec a.1 a.2⟩
def a_spec_StepVec : List (Nat × LoopAnn) := []
theorem e_spec_StepVec : fnDen ⟨tis, fns_146⟩ a_spec_StepVec Try.f200 (codeOf Try.f200) [.val true cVec false, .val false (.one (.int .i64)) false] [.val true cVec true, .val false (.one .bool) true] = fun a => spec_StepVec a.1 a.2 := by kernel_rfl
theorem m_spec_StepVec : Meets Try.prog 200 F_spec_StepVec := by
  have h := meets_of (ann := a_spec_StepVec) (ps := [.val true cVec false, .val false (.one (.int .i64)) false]) (rs := [.val true cVec true, .val false (.one .bool) true]) g_146 mixed Try.func200 (by kernel_rfl) (by kernel_rfl : Try.f200.body = some (codeOf Try.f200))
  rw [e_spec_StepVec] at h
  exact h
noncomputable def fns_200 : List (FuncId × Fn) := (200, F_spec_StepVec) :: fns_146
theorem g_200 : Good Try.prog ⟨tis, fns_200⟩ := g_146.cons m_spec_StepVec
noncomputable def spec_BestVec_l0 (p0 : Int) (i1 : List Pt) (t8 : Int) (t9 : Int) (b0 : Int) (b1 : Int) (b2 : Int) (b3 : Int) (b4 : Int) (b0_1 : Int) (b1_1 : Int) (b2_1 : Int) (b3_1 : Int) (b4_1 : Int) : Option ((Int × Int × Int × Int × Int × Int × Int × Int × Int × Int × Int × Int) ⊕ (Int × Int × Int × Int × Int × Int × Int × Int × Int × Int × Int)) :=
  cond (decide (t9 < (i1.length : Int)))
    ((at? i1 t9).bind fun x24 =>
    (cond (!x24.1)
      (some true)
      ((at? i1 t9).bind fun x31 =>
      some (!x31.2.2.1))).bind fun t35 =>
    cond t35
      (some (.inl (t8, w64 (t9 + 1), b0, b1, b2, b3, b4, b0_1, b1_1, b2_1, b3_1, b4_1)))
      ((at? i1 t9).bind fun x39 =>
      (at? i1 t9).bind fun x44 =>
      (spec_StepVec x39.2.2.2 x44.2.1).bind fun t47 =>
      (cond t47.2 (some (decide (t47.1.1 < p0))) (some false)).bind fun t56 =>
      (cond t56
        ((cond (decide (t8 < 0))
          (some true)
          ((spec_LessVec t47.1 (b0_1, b1_1, b2_1, b3_1, b4_1)).bind fun t63 =>
          some t63)).bind fun t64 =>
        some t64)
        (some false)).bind fun t65 =>
      cond t65
        (some (.inl (t9, w64 (t9 + 1), t47.1.1, t47.1.2.1, t47.1.2.2.1, p0, 0, t47.1.1, t47.1.2.1, t47.1.2.2.1, t47.1.2.2.2.1, t47.1.2.2.2.2)))
        (some (.inl (t8, w64 (t9 + 1), b0, b1, b2, b3, b4, b0_1, b1_1, b2_1, b3_1, b4_1)))))
    (some (.inr (t8, b0, b1, b2, b3, b4, b0_1, b1_1, b2_1, b3_1, b4_1)))
noncomputable def spec_BestVec (p0 : Int) (i1 : List Pt) : Option (Vec × Int) :=
  (loop (fun z => spec_BestVec_l0 p0 i1 z.1 z.2.1 z.2.2.1 z.2.2.2.1 z.2.2.2.2.1 z.2.2.2.2.2.1 z.2.2.2.2.2.2.1 z.2.2.2.2.2.2.2.1 z.2.2.2.2.2.2.2.2.1 z.2.2.2.2.2.2.2.2.2.1 z.2.2.2.2.2.2.2.2.2.2.1 z.2.2.2.2.2.2.2.2.2.2.2) ((-1), 0, p0, 0, 0, p0, 0, 0, 0, 0, 0, 0)).bind fun d =>
  some ((d.2.1, d.2.2.1, d.2.2.2.1, d.2.2.2.2.1, d.2.2.2.2.2.1), d.1)
noncomputable def F_spec_BestVec : Fn := ⟨[.val false (.one (.int .i64)) false, .val false (.one (.sl cPt)) false], [.val true cVec true, .val false (.one (.int .i64)) true], fun a => spec_BestVec a.1 a.2⟩
def a_spec_BestVec : List (Nat × LoopAnn) := [(0, ⟨⟨[(8, false, [.dat (.int .i64)]), (9, false, [.dat (.int .i64)]), (29, false, [.undef]), (30, false, [.undef]), (31, false, [.undef]), (32, false, [.undef]), (33, false, [.undef]), (34, false, [.undef]), (52, false, [.undef]), (53, false, [.undef]), (54, false, [.undef]), (55, false, [.undef]), (58, false, [.undef]), (59, false, [.undef]), (60, false, [.undef]), (61, false, [.undef]), (62, false, [.undef]), (63, false, [.undef]), (64, false, [.undef])], [(266240, .box [.dat (.int .i64), .dat (.int .i64), .dat (.int .i64), .dat (.int .i64), .dat (.int .i64)]), (526336, .box [.dat (.int .i64), .dat (.int .i64), .dat (.int .i64), .dat (.int .i64), .dat (.int .i64)])]⟩,
    ⟨[(8, false, [.dat (.int .i64)])], [(266240, .box [.dat (.int .i64), .dat (.int .i64), .dat (.int .i64), .dat (.int .i64), .dat (.int .i64)]), (526336, .box [.dat (.int .i64), .dat (.int .i64), .dat (.int .i64), .dat (.int .i64), .dat (.int .i64)])]⟩, none⟩)]
theorem e_spec_BestVec : fnDen ⟨tis, fns_200⟩ a_spec_BestVec Try.f145 (codeOf Try.f145) [.val false (.one (.int .i64)) false, .val false (.one (.sl cPt)) false] [.val true cVec true, .val false (.one (.int .i64)) true] = fun a => spec_BestVec a.1 a.2 := by kernel_rfl
theorem m_spec_BestVec : Meets Try.prog 145 F_spec_BestVec := by
  have h := meets_of (ann := a_spec_BestVec) (ps := [.val false (.one (.int .i64)) false, .val false (.one (.sl cPt)) false]) (rs := [.val true cVec true, .val false (.one (.int .i64)) true]) g_200 mixed Try.func145 (by kernel_rfl) (by kernel_rfl : Try.f145.body = some (codeOf Try.f145))
  rw [e_spec_BestVec] at h
  exact h
noncomputable def fns_145 : List (FuncId × Fn) := (145, F_spec_BestVec) :: fns_200
theorem g_145 : Good Try.prog ⟨tis, fns_145⟩ := g_200.cons m_spec_BestVec
noncomputable def spec_SayVec (id0 : Int) (l1 : List Pt) (port2 : Int) : Option Vec :=
  (spec_BestVec id0 l1).bind fun t12 =>
  some (t12.1.1, t12.1.2.1, t12.1.2.2.1, t12.1.2.2.2.1, port2)
noncomputable def F_spec_SayVec : Fn := ⟨[.val false (.one (.int .i64)) false, .val false (.one (.sl cPt)) false, .val false (.one (.int .i64)) false], [.val true cVec true], fun a => spec_SayVec a.1 a.2.1 a.2.2⟩
def a_spec_SayVec : List (Nat × LoopAnn) := []
theorem e_spec_SayVec : fnDen ⟨tis, fns_145⟩ a_spec_SayVec Try.f147 (codeOf Try.f147) [.val false (.one (.int .i64)) false, .val false (.one (.sl cPt)) false, .val false (.one (.int .i64)) false] [.val true cVec true] = fun a => spec_SayVec a.1 a.2.1 a.2.2 := by kernel_rfl
theorem m_spec_SayVec : Meets Try.prog 147 F_spec_SayVec := by
  have h := meets_of (ann := a_spec_SayVec) (ps := [.val false (.one (.int .i64)) false, .val false (.one (.sl cPt)) false, .val false (.one (.int .i64)) false]) (rs := [.val true cVec true]) g_145 mixed Try.func147 (by kernel_rfl) (by kernel_rfl : Try.f147.body = some (codeOf Try.f147))
  rw [e_spec_SayVec] at h
  exact h
noncomputable def fns_147 : List (FuncId × Fn) := (147, F_spec_SayVec) :: fns_145
theorem g_147 : Good Try.prog ⟨tis, fns_147⟩ := g_145.cons m_spec_SayVec
noncomputable def spec_RoleOf (id0 : Int) (l1 : List Pt) (port2 : Int) : Option Int :=
  (spec_l1In port2 0 (w64 ((l1.length : Int) - 1))).bind fun t13 =>
  (cond (!t13)
    (some true)
    ((at? l1 port2).bind fun x18 =>
    some (!x18.1))).bind fun t22 =>
  cond t22
    (some 4)
    ((spec_BestVec id0 l1).bind fun t26 =>
    cond (t26.2 == port2)
      (some 1)
      ((at? l1 port2).bind fun x36 =>
      (cond (!x36.2.2.1)
        (some true)
        ((spec_SayVec id0 l1 port2).bind fun t44 =>
        (at? l1 port2).bind fun x47 =>
        (spec_LessVec t44 x47.2.2.2).bind fun t50 =>
        some t50)).bind fun t51 =>
      cond t51 (some 2) (some 3)))
noncomputable def F_spec_RoleOf : Fn := ⟨[.val false (.one (.int .i64)) false, .val false (.one (.sl cPt)) false, .val false (.one (.int .i64)) false], [.val false (.one (.int .i64)) true], fun a => spec_RoleOf a.1 a.2.1 a.2.2⟩
def a_spec_RoleOf : List (Nat × LoopAnn) := []
theorem e_spec_RoleOf : fnDen ⟨tis, fns_147⟩ a_spec_RoleOf Try.f75 (codeOf Try.f75) [.val false (.one (.int .i64)) false, .val false (.one (.sl cPt)) false, .val false (.one (.int .i64)) false] [.val false (.one (.int .i64)) true] = fun a => spec_RoleOf a.1 a.2.1 a.2.2 := by kernel_rfl
theorem m_spec_RoleOf : Meets Try.prog 75 F_spec_RoleOf := by
  have h := meets_of (ann := a_spec_RoleOf) (ps := [.val false (.one (.int .i64)) false, .val false (.one (.sl cPt)) false, .val false (.one (.int .i64)) false]) (rs := [.val false (.one (.int .i64)) true]) g_147 mixed Try.func75 (by kernel_rfl) (by kernel_rfl : Try.f75.body = some (codeOf Try.f75))
  rw [e_spec_RoleOf] at h
  exact h
noncomputable def fns_75 : List (FuncId × Fn) := (75, F_spec_RoleOf) :: fns_147
theorem g_75 : Good Try.prog ⟨tis, fns_75⟩ := g_147.cons m_spec_RoleOf
noncomputable def spec_l17Port (b0 : Bridge) (c1 : Int) (p2 : Int) : Option Int :=
  cond (c1 == 1)
    ((at? b0.2.2.1 p2).bind fun x13 =>
    cond x13.1 (some 1) (some 0))
    (cond (c1 == 2)
      ((at? b0.2.2.1 p2).bind fun x21 =>
      some x21.2.1)
      (cond (c1 == 3)
        ((spec_RoleOf b0.1 b0.2.2.1 p2).bind fun t31 =>
        some t31)
        ((at? b0.2.2.2.2.2.1 p2).bind fun x36 =>
        some x36)))
noncomputable def F_spec_l17Port : Fn := ⟨[.val true cBridge false, .val false (.one (.int .i64)) false, .val false (.one (.int .i64)) false], [.val false (.one (.int .i64)) true], fun a => spec_l17Port a.1 a.2.1 a.2.2⟩
def a_spec_l17Port : List (Nat × LoopAnn) := []
theorem e_spec_l17Port : fnDen ⟨tis, fns_75⟩ a_spec_l17Port Try.f125 (codeOf Try.f125) [.val true cBridge false, .val false (.one (.int .i64)) false, .val false (.one (.int .i64)) false] [.val false (.one (.int .i64)) true] = fun a => spec_l17Port a.1 a.2.1 a.2.2 := by kernel_rfl
theorem m_spec_l17Port : Meets Try.prog 125 F_spec_l17Port := by
  have h := meets_of (ann := a_spec_l17Port) (ps := [.val true cBridge false, .val false (.one (.int .i64)) false, .val false (.one (.int .i64)) false]) (rs := [.val false (.one (.int .i64)) true]) g_75 mixed Try.func125 (by kernel_rfl) (by kernel_rfl : Try.f125.body = some (codeOf Try.f125))
  rw [e_spec_l17Port] at h
  exact h
noncomputable def fns_125 : List (FuncId × Fn) := (125, F_spec_l17Port) :: fns_75
theorem g_125 : Good Try.prog ⟨tis, fns_125⟩ := g_75.cons m_spec_l17Port
noncomputable def spec_l17Row (r0 : Vrow) (c1 : Int) : Option Int :=
  cond (c1 == 1) (some 1) (cond (c1 == 2) (some r0.2.1) (some r0.2.2))
noncomputable def F_spec_l17Row : Fn := ⟨[.val true cVrow false, .val false (.one (.int .i64)) false], [.val false (.one (.int .i64)) true], fun a => spec_l17Row a.1 a.2⟩
def a_spec_l17Row : List (Nat × LoopAnn) := []
theorem e_spec_l17Row : fnDen ⟨tis, fns_125⟩ a_spec_l17Row Try.f126 (codeOf Try.f126) [.val true cVrow false, .val false (.one (.int .i64)) false] [.val false (.one (.int .i64)) true] = fun a => spec_l17Row a.1 a.2 := by kernel_rfl
theorem m_spec_l17Row : Meets Try.prog 126 F_spec_l17Row := by
  have h := meets_of (ann := a_spec_l17Row) (ps := [.val true cVrow false, .val false (.one (.int .i64)) false]) (rs := [.val false (.one (.int .i64)) true]) g_125 mixed Try.func126 (by kernel_rfl) (by kernel_rfl : Try.f126.body = some (codeOf Try.f126))
  rw [e_spec_l17Row] at h
  exact h
noncomputable def fns_126 : List (FuncId × Fn) := (126, F_spec_l17Row) :: fns_125
theorem g_126 : Good Try.prog ⟨tis, fns_126⟩ := g_125.cons m_spec_l17Row
noncomputable def spec_MibList_l2 (p0 : Bridge) (t4 : Int) (t5 : Int) (t3_1 : List Bind) : Option ((Int × List Bind) ⊕ (List Bind)) :=
  cond (decide (t5 < (p0.2.2.1.length : Int)))
    ((spec_l17Port p0 t4 t5).bind fun t59 =>
    (spec_l17Add t3_1 [2, t4, w64 (t5 + 1)] t59).bind fun t60 =>
    some (.inl (w64 (t5 + 1), t60)))
    (some (.inr t3_1))
noncomputable def spec_MibList_l0 (p0 : Bridge) (t4 : Int) (t3 : List Bind) : Option ((Int × List Bind) ⊕ (List Bind)) :=
  cond (decide (t4 ≤ 4))
    ((loop (fun z => spec_MibList_l2 p0 t4 z.1 z.2) (0, t3)).bind fun d =>
    some (.inl (w64 (t4 + 1), d)))
    (some (.inr t3))
noncomputable def spec_MibList_l6 (p0 : Bridge) (t6 : Int) (t7 : Int) (t3_5 : List Bind) : Option ((Int × List Bind) ⊕ (List Bind)) :=
  cond (decide (t7 < (p0.2.2.2.2.1.length : Int)))
    ((at? p0.2.2.2.2.1 t7).bind fun x79 =>
    (at? p0.2.2.2.2.1 t7).bind fun x87 =>
    (spec_l17Row x87 t6).bind fun t90 =>
    (spec_l17Add t3_5 [3, t6, x79.1] t90).bind fun t91 =>
    some (.inl (w64 (t7 + 1), t91)))
    (some (.inr t3_5))
noncomputable def spec_MibList_l4 (p0 : Bridge) (t6 : Int) (t3_4 : List Bind) : Option ((Int × List Bind) ⊕ (List Bind)) :=
  cond (decide (t6 ≤ 3))
    ((loop (fun z => spec_MibList_l6 p0 t6 z.1 z.2) (0, t3_4)).bind fun d_2 =>
    some (.inl (w64 (t6 + 1), d_2)))
    (some (.inr t3_4))
noncomputable def spec_MibList_l8 (p0 : Bridge) (t8 : Int) (t3_8 : List Bind) : Option ((Int × List Bind) ⊕ (List Bind)) :=
  cond (decide (t8 < (p0.2.2.2.1.length : Int)))
    ((at? p0.2.2.2.1 t8).bind fun x103 =>
    (at? p0.2.2.2.1 t8).bind fun x109 =>
    (at? p0.2.2.2.1 t8).bind fun x116 =>
    (spec_l17Add t3_8 [4, 1, x103.1, x109.2.1] (w64 (x116.2.2.1 + 1))).bind fun t120 =>
    some (.inl (w64 (t8 + 1), t120)))
    (some (.inr t3_8))
noncomputable def spec_MibList (p0 : Bridge) : Option (List Bind) :=
  (spec_BridgeOk p0).bind fun t10 =>
  cond (!t10)
    (some ([] : List Bind))
    ((spec_l17Name ([1, 1] : List Int)).bind fun t14 =>
    (spec_l17Add ([(t14, 4, 0, p0.2.1, [])]) ([1, 2] : List Int) p0.2.2.2.2.2.2.1).bind fun t24 =>
    (spec_l17Add t24 ([1, 3] : List Int) p0.2.2.2.2.2.2.2.1).bind fun t29 =>
    (spec_l17Add t29 ([1, 4] : List Int) p0.2.2.2.2.2.2.2.2.1).bind fun t34 =>
    (spec_l17Add t34 ([1, 5] : List Int) p0.2.2.2.2.2.2.2.2.2.1).bind fun t39 =>
    (loop (fun z => spec_MibList_l0 p0 z.1 z.2) (1, t39)).bind fun d_1 =>
    (loop (fun z => spec_MibList_l4 p0 z.1 z.2) (1, d_1)).bind fun d_3 =>
    (loop (fun z => spec_MibList_l8 p0 z.1 z.2) (0, d_3)).bind fun d_4 =>
    some d_4)
noncomputable def F_spec_MibList : Fn := ⟨[.val true cBridge false], [.val false (.one (.sl cBind)) true], fun a => spec_MibList a⟩
def a_spec_MibList : List (Nat × LoopAnn) := [(0, ⟨⟨[(3, false, [.own 1000000000]), (4, false, [.dat (.int .i64)])], [(1000000000, .root cBind true)]⟩,
    ⟨[(3, false, [.own 1000000300])], [(1000000300, .root cBind true)]⟩, none⟩),
  (2, ⟨⟨[(3, false, [.own 1000002000]), (5, false, [.dat (.int .i64)])], [(1000002000, .root cBind true)]⟩,
    ⟨[(3, false, [.own 1000002300])], [(1000002300, .root cBind true)]⟩, none⟩),
  (4, ⟨⟨[(3, false, [.own 1000004000]), (6, false, [.dat (.int .i64)])], [(1000004000, .root cBind true)]⟩,
    ⟨[(3, false, [.own 1000004300])], [(1000004300, .root cBind true)]⟩, none⟩),
  (6, ⟨⟨[(3, false, [.own 1000006000]), (7, false, [.dat (.int .i64)])], [(1000006000, .root cBind true)]⟩,
    ⟨[(3, false, [.own 1000006300])], [(1000006300, .root cBind true)]⟩, none⟩),
  (8, ⟨⟨[(3, false, [.own 1000008000]), (8, false, [.dat (.int .i64)])], [(1000008000, .root cBind true)]⟩,
    ⟨[(3, false, [.own 1000008300])], [(1000008300, .root cBind true)]⟩, none⟩)]
theorem e_spec_MibList : fnDen ⟨tis, fns_126⟩ a_spec_MibList Try.f53 (codeOf Try.f53) [.val true cBridge false] [.val false (.one (.sl cBind)) true] = fun a => spec_MibList a := by kernel_rfl
theorem m_spec_MibList : Meets Try.prog 53 F_spec_MibList := by
  have h := meets_of (ann := a_spec_MibList) (ps := [.val true cBridge false]) (rs := [.val false (.one (.sl cBind)) true]) g_126 mixed Try.func53 (by kernel_rfl) (by kernel_rfl : Try.f53.body = some (codeOf Try.f53))
  rw [e_spec_MibList] at h
  exact h
noncomputable def fns_53 : List (FuncId × Fn) := (53, F_spec_MibList) :: fns_126
theorem g_53 : Good Try.prog ⟨tis, fns_53⟩ := g_126.cons m_spec_MibList
noncomputable def spec_Places (b0 : Bridge) : Option Int :=
  (spec_MibList b0).bind fun t4 =>
  some (t4.length : Int)
noncomputable def F_spec_Places : Fn := ⟨[.val true cBridge false], [.val false (.one (.int .i64)) true], fun a => spec_Places a⟩
def a_spec_Places : List (Nat × LoopAnn) := []
theorem e_spec_Places : fnDen ⟨tis, fns_53⟩ a_spec_Places Try.f46 (codeOf Try.f46) [.val true cBridge false] [.val false (.one (.int .i64)) true] = fun a => spec_Places a := by kernel_rfl
theorem m_spec_Places : Meets Try.prog 46 F_spec_Places := by
  have h := meets_of (ann := a_spec_Places) (ps := [.val true cBridge false]) (rs := [.val false (.one (.int .i64)) true]) g_53 mixed Try.func46 (by kernel_rfl) (by kernel_rfl : Try.f46.body = some (codeOf Try.f46))
  rw [e_spec_Places] at h
  exact h
noncomputable def fns_46 : List (FuncId × Fn) := (46, F_spec_Places) :: fns_53
theorem g_46 : Good Try.prog ⟨tis, fns_46⟩ := g_53.cons m_spec_Places
noncomputable def impl_in (n0 : Int) (low1 : Int) (high2 : Int) : Option Bool :=
  (cond (decide (n0 ≥ low1)) (some (decide (n0 ≤ high2))) (some false)).bind fun t14 =>
  some t14
noncomputable def F_impl_in : Fn := ⟨[.val false (.one (.int .i64)) false, .val false (.one (.int .i64)) false, .val false (.one (.int .i64)) false], [.val false (.one .bool) true], fun a => impl_in a.1 a.2.1 a.2.2⟩
def a_impl_in : List (Nat × LoopAnn) := []
theorem e_impl_in : fnDen ⟨tis, fns_46⟩ a_impl_in Try.f54 (codeOf Try.f54) [.val false (.one (.int .i64)) false, .val false (.one (.int .i64)) false, .val false (.one (.int .i64)) false] [.val false (.one .bool) true] = fun a => impl_in a.1 a.2.1 a.2.2 := by kernel_rfl
theorem m_impl_in : Meets Try.prog 54 F_impl_in := by
  have h := meets_of (ann := a_impl_in) (ps := [.val false (.one (.int .i64)) false, .val false (.one (.int .i64)) false, .val false (.one (.int .i64)) false]) (rs := [.val false (.one .bool) true]) g_46 mixed Try.func54 (by kernel_rfl) (by kernel_rfl : Try.f54.body = some (codeOf Try.f54))
  rw [e_impl_in] at h
  exact h
noncomputable def fns_54 : List (FuncId × Fn) := (54, F_impl_in) :: fns_46
theorem g_54 : Good Try.prog ⟨tis, fns_54⟩ := g_46.cons m_impl_in
noncomputable def impl_allPorts (ports0 : Int) : Option Int :=
  (shl .i64 1 ports0).bind fun t4 =>
  some (w64 (t4 - 1))
noncomputable def F_impl_allPorts : Fn := ⟨[.val false (.one (.int .i64)) false], [.val false (.one (.int .i64)) true], fun a => impl_allPorts a⟩
def a_impl_allPorts : List (Nat × LoopAnn) := []
theorem e_impl_allPorts : fnDen ⟨tis, fns_54⟩ a_impl_allPorts Try.f127 (codeOf Try.f127) [.val false (.one (.int .i64)) false] [.val false (.one (.int .i64)) true] = fun a => impl_allPorts a := by kernel_rfl
theorem m_impl_allPorts : Meets Try.prog 127 F_impl_allPorts := by
  have h := meets_of (ann := a_impl_allPorts) (ps := [.val false (.one (.int .i64)) false]) (rs := [.val false (.one (.int .i64)) true]) g_54 mixed Try.func127 (by kernel_rfl) (by kernel_rfl : Try.f127.body = some (codeOf Try.f127))
  rw [e_impl_allPorts] at h
  exact h
noncomputable def fns_127 : List (FuncId × Fn) := (127, F_impl_allPorts) :: fns_54
theorem g_127 : Good Try.prog ⟨tis, fns_127⟩ := g_54.cons m_impl_allPorts
noncomputable def impl_RowAt_l0 (v0 : Vtab) (id1 : Int) (t10 : Int) : Option (Int ⊕ (Unit ⊕ Int)) :=
  cond (decide (t10 < (v0.1.length : Int)))
    ((at? v0.1 t10).bind fun x13 =>
    cond (x13.1 == id1) (some (.inr (.inr t10))) (some (.inl (w64 (t10 + 1)))))
    (some (.inr (.inl ())))
noncomputable def impl_RowAt (v0 : Vtab) (id1 : Int) : Option Int :=
  (loop (fun z => impl_RowAt_l0 v0 id1 z) 0).bind (Sum.elim (fun d =>
    some (-1)) (fun r => some r))
noncomputable def F_impl_RowAt : Fn := ⟨[.val true cVtab false, .val false (.one (.int .i64)) false], [.val false (.one (.int .i64)) true], fun a => impl_RowAt a.1 a.2⟩
def a_impl_RowAt : List (Nat × LoopAnn) := [(0, ⟨⟨[(10, false, [.dat (.int .i64)])], []⟩,
    ⟨[], []⟩, some ⟨[(4, false, [.dat (.int .i64)])], []⟩⟩)]
theorem e_impl_RowAt : fnDen ⟨tis, fns_127⟩ a_impl_RowAt Try.f137 (codeOf Try.f137) [.val true cVtab false, .val false (.one (.int .i64)) false] [.val false (.one (.int .i64)) true] = fun a => impl_RowAt a.1 a.2 := by kernel_rfl
theorem m_impl_RowAt : Meets Try.prog 137 F_impl_RowAt := by
  have h := meets_of (ann := a_impl_RowAt) (ps := [.val true cVtab false, .val false (.one (.int .i64)) false]) (rs := [.val false (.one (.int .i64)) true]) g_127 mixed Try.func137 (by kernel_rfl) (by kernel_rfl : Try.f137.body = some (codeOf Try.f137))
  rw [e_impl_RowAt] at h
  exact h
noncomputable def fns_137 : List (FuncId × Fn) := (137, F_impl_RowAt) :: fns_127
theorem g_137 : Good Try.prog ⟨tis, fns_137⟩ := g_127.cons m_impl_RowAt
noncomputable def impl_VtabOk_l0 (p0 : Vtab) (i1 : Int) (t28 : Int) : Option (Int ⊕ (Unit ⊕ Bool)) :=
  cond (decide (t28 < (p0.1.length : Int)))
    ((at? p0.1 t28).bind fun x31 =>
    (impl_in x31.1 1 99).bind fun t35 =>
    (cond (!t35)
      (some true)
      ((cond (decide (t28 > 0))
        ((at? p0.1 (w64 (t28 - 1))).bind fun x45 =>
        some (decide (x45.1 ≥ x31.1)))
        (some false)).bind fun t51 =>
      some t51)).bind fun t52 =>
    (cond t52
      (some true)
      ((impl_allPorts i1).bind fun t57 =>
      (impl_in x31.2.1 0 t57).bind fun t58 =>
      some (!t58))).bind fun t60 =>
    (cond t60 (some true) (some ((bclr .i64 x31.2.2 x31.2.1) != 0))).bind fun t68 =>
    cond t68 (some (.inr (.inr false))) (some (.inl (w64 (t28 + 1)))))
    (some (.inr (.inl ())))
noncomputable def impl_VtabOk_l2 (p0 : Vtab) (t73 : Int) : Option (Int ⊕ (Unit ⊕ Bool)) :=
  cond (decide (t73 < (p0.2.length : Int)))
    ((at? p0.2 t73).bind fun x75 =>
    (impl_RowAt p0 x75).bind fun t79 =>
    cond (decide (t79 < 0)) (some (.inr (.inr false))) (some (.inl (w64 (t73 + 1)))))
    (some (.inr (.inl ())))
noncomputable def impl_VtabOk (p0 : Vtab) (i1 : Int) : Option Bool :=
  (impl_in i1 1 6).bind fun t10 =>
  (cond (!t10) (some true) (some ((p0.2.length : Int) != i1))).bind fun t18 =>
  (cond t18 (some true) (some (decide ((p0.1.length : Int) > 6)))).bind fun t24 =>
  cond t24
    (some false)
    ((loop (fun z => impl_VtabOk_l0 p0 i1 z) 0).bind (Sum.elim (fun d =>
      (loop (fun z => impl_VtabOk_l2 p0 z) 0).bind (Sum.elim (fun d_1 =>
        some true) (fun r => some r))) (fun r_1 => some r_1)))
noncomputable def F_impl_VtabOk : Fn := ⟨[.val true cVtab false, .val false (.one (.int .i64)) false], [.val false (.one .bool) true], fun a => impl_VtabOk a.1 a.2⟩
def a_impl_VtabOk : List (Nat × LoopAnn) := [(0, ⟨⟨[(28, false, [.dat (.int .i64)]), (38, false, [.undef]), (39, false, [.undef]), (40, false, [.undef]), (41, false, [.undef]), (42, false, [.undef]), (43, false, [.undef]), (44, false, [.undef]), (45, false, [.undef]), (46, false, [.undef]), (47, false, [.undef]), (48, false, [.undef]), (49, false, [.undef]), (50, false, [.undef]), (51, false, [.undef]), (54, false, [.undef]), (55, false, [.undef]), (56, false, [.undef]), (57, false, [.undef]), (58, false, [.undef]), (59, false, [.undef]), (62, false, [.undef]), (63, false, [.undef]), (64, false, [.undef]), (65, false, [.undef]), (66, false, [.undef]), (67, false, [.undef])], []⟩,
    ⟨[], []⟩, some ⟨[(4, false, [.dat .bool])], []⟩⟩),
  (2, ⟨⟨[(73, false, [.dat (.int .i64)])], []⟩,
    ⟨[], []⟩, some ⟨[(4, false, [.dat .bool])], []⟩⟩)]
theorem e_impl_VtabOk : fnDen ⟨tis, fns_137⟩ a_impl_VtabOk Try.f61 (codeOf Try.f61) [.val true cVtab false, .val false (.one (.int .i64)) false] [.val false (.one .bool) true] = fun a => impl_VtabOk a.1 a.2 := by kernel_rfl
theorem m_impl_VtabOk : Meets Try.prog 61 F_impl_VtabOk := by
  have h := meets_of (ann := a_impl_VtabOk) (ps := [.val true cVtab false, .val false (.one (.int .i64)) false]) (rs := [.val false (.one .bool) true]) g_137 mixed Try.func61 (by kernel_rfl) (by kernel_rfl : Try.f61.body = some (codeOf Try.f61))
  rw [e_impl_VtabOk] at h
  exact h
noncomputable def fns_61 : List (FuncId × Fn) := (61, F_impl_VtabOk) :: fns_137
theorem g_61 : Good Try.prog ⟨tis, fns_61⟩ := g_137.cons m_impl_VtabOk
noncomputable def impl_VecOk (v0 : Vec) : Option Bool :=
  (impl_in v0.1 1 99).bind fun t5 =>
  (cond t5
    ((impl_in v0.2.1 0 100000).bind fun t9 =>
    some t9)
    (some false)).bind fun t10 =>
  (cond t10
    ((impl_in v0.2.2.1 0 10).bind fun t14 =>
    some t14)
    (some false)).bind fun t15 =>
  (cond t15
    ((impl_in v0.2.2.2.1 1 99).bind fun t19 =>
    some t19)
    (some false)).bind fun t20 =>
  (cond t20
    ((impl_in v0.2.2.2.2 0 7).bind fun t24 =>
    some t24)
    (some false)).bind fun t25 =>
  some t25
noncomputable def F_impl_VecOk : Fn := ⟨[.val true cVec false], [.val false (.one .bool) true], fun a => impl_VecOk a⟩
def a_impl_VecOk : List (Nat × LoopAnn) := []
theorem e_impl_VecOk : fnDen ⟨tis, fns_61⟩ a_impl_VecOk Try.f168 (codeOf Try.f168) [.val true cVec false] [.val false (.one .bool) true] = fun a => impl_VecOk a := by kernel_rfl
theorem m_impl_VecOk : Meets Try.prog 168 F_impl_VecOk := by
  have h := meets_of (ann := a_impl_VecOk) (ps := [.val true cVec false]) (rs := [.val false (.one .bool) true]) g_61 mixed Try.func168 (by kernel_rfl) (by kernel_rfl : Try.f168.body = some (codeOf Try.f168))
  rw [e_impl_VecOk] at h
  exact h
noncomputable def fns_168 : List (FuncId × Fn) := (168, F_impl_VecOk) :: fns_61
theorem g_168 : Good Try.prog ⟨tis, fns_168⟩ := g_61.cons m_impl_VecOk
noncomputable def impl_PtOk (p0 : Pt) : Option Bool :=
  (impl_in p0.2.1 1 1000).bind fun t5 =>
  (cond (!t5)
    (some true)
    ((cond p0.2.2.1 (some (!p0.1)) (some false)).bind fun t14 =>
    some t14)).bind fun t15 =>
  cond t15
    (some false)
    (cond p0.2.2.1
      ((impl_VecOk p0.2.2.2).bind fun t20 =>
      some t20)
      (let t2 := p0.2.2.2.1 == 0 && (p0.2.2.2.2.1 == 0 && (p0.2.2.2.2.2.1 == 0 && (p0.2.2.2.2.2.2.1 == 0 && (p0.2.2.2.2.2.2.2 == 0))))
      some t2))
noncomputable def F_impl_PtOk : Fn := ⟨[.val true cPt false], [.val false (.one .bool) true], fun a => impl_PtOk a⟩
def a_impl_PtOk : List (Nat × LoopAnn) := []
theorem e_impl_PtOk : fnDen ⟨tis, fns_168⟩ a_impl_PtOk Try.f131 (codeOf Try.f131) [.val true cPt false] [.val false (.one .bool) true] = fun a => impl_PtOk a := by kernel_rfl
theorem m_impl_PtOk : Meets Try.prog 131 F_impl_PtOk := by
  have h := meets_of (ann := a_impl_PtOk) (ps := [.val true cPt false]) (rs := [.val false (.one .bool) true]) g_168 mixed Try.func131 (by kernel_rfl) (by kernel_rfl : Try.f131.body = some (codeOf Try.f131))
  rw [e_impl_PtOk] at h
  exact h
noncomputable def fns_131 : List (FuncId × Fn) := (131, F_impl_PtOk) :: fns_168
theorem g_131 : Good Try.prog ⟨tis, fns_131⟩ := g_168.cons m_impl_PtOk
noncomputable def impl_fentOk (e0 : Fent) : Option Bool :=
  (impl_in e0.1 1 99).bind fun t5 =>
  (cond t5
    ((impl_in e0.2.1 1 9999).bind fun t9 =>
    some t9)
    (some false)).bind fun t10 =>
  (cond t10
    ((impl_in e0.2.2.1 0 7).bind fun t14 =>
    some t14)
    (some false)).bind fun t15 =>
  (cond t15
    ((impl_in e0.2.2.2.1 0 4).bind fun t19 =>
    some t19)
    (some false)).bind fun t20 =>
  (cond t20
    ((cond (!e0.2.2.2.2) (some true) (some (e0.2.2.2.1 == 0))).bind fun t29 =>
    some t29)
    (some false)).bind fun t30 =>
  some t30
noncomputable def F_impl_fentOk : Fn := ⟨[.val true cFent false], [.val false (.one .bool) true], fun a => impl_fentOk a⟩
def a_impl_fentOk : List (Nat × LoopAnn) := []
theorem e_impl_fentOk : fnDen ⟨tis, fns_131⟩ a_impl_fentOk Try.f139 (codeOf Try.f139) [.val true cFent false] [.val false (.one .bool) true] = fun a => impl_fentOk a := by kernel_rfl
theorem m_impl_fentOk : Meets Try.prog 139 F_impl_fentOk := by
  have h := meets_of (ann := a_impl_fentOk) (ps := [.val true cFent false]) (rs := [.val false (.one .bool) true]) g_131 mixed Try.func139 (by kernel_rfl) (by kernel_rfl : Try.f139.body = some (codeOf Try.f139))
  rw [e_impl_fentOk] at h
  exact h
noncomputable def fns_139 : List (FuncId × Fn) := (139, F_impl_fentOk) :: fns_131
theorem g_139 : Good Try.prog ⟨tis, fns_139⟩ := g_131.cons m_impl_fentOk
noncomputable def impl_behind (e0 : Fent) (tag1 : Int) (mac2 : Int) : Option Bool :=
  (cond (decide (e0.1 > tag1))
    (some true)
    ((cond (e0.1 == tag1) (some (decide (e0.2.1 > mac2))) (some false)).bind fun t21 =>
    some t21)).bind fun t22 =>
  some t22
noncomputable def F_impl_behind : Fn := ⟨[.val true cFent false, .val false (.one (.int .i64)) false, .val false (.one (.int .i64)) false], [.val false (.one .bool) true], fun a => impl_behind a.1 a.2.1 a.2.2⟩
def a_impl_behind : List (Nat × LoopAnn) := []
theorem e_impl_behind : fnDen ⟨tis, fns_139⟩ a_impl_behind Try.f197 (codeOf Try.f197) [.val true cFent false, .val false (.one (.int .i64)) false, .val false (.one (.int .i64)) false] [.val false (.one .bool) true] = fun a => impl_behind a.1 a.2.1 a.2.2 := by kernel_rfl
theorem m_impl_behind : Meets Try.prog 197 F_impl_behind := by
  have h := meets_of (ann := a_impl_behind) (ps := [.val true cFent false, .val false (.one (.int .i64)) false, .val false (.one (.int .i64)) false]) (rs := [.val false (.one .bool) true]) g_139 mixed Try.func197 (by kernel_rfl) (by kernel_rfl : Try.f197.body = some (codeOf Try.f197))
  rw [e_impl_behind] at h
  exact h
noncomputable def fns_197 : List (FuncId × Fn) := (197, F_impl_behind) :: fns_139
theorem g_197 : Good Try.prog ⟨tis, fns_197⟩ := g_139.cons m_impl_behind
noncomputable def impl_FdbOk_l0 (l0 : List Fent) (t7 : Int) : Option (Int ⊕ (Unit ⊕ Bool)) :=
  cond (decide (t7 < (l0.length : Int)))
    ((at? l0 t7).bind fun x10 =>
    (impl_fentOk x10).bind fun t13 =>
    (cond (!t13)
      (some true)
      ((cond (decide (t7 > 0))
        ((at? l0 (w64 (t7 - 1))).bind fun x23 =>
        (at? l0 (w64 (t7 - 1))).bind fun x29 =>
        (impl_behind x10 x23.1 x29.2.1).bind fun t32 =>
        some (!t32))
        (some false)).bind fun t34 =>
      some t34)).bind fun t35 =>
    cond t35 (some (.inr (.inr false))) (some (.inl (w64 (t7 + 1)))))
    (some (.inr (.inl ())))
noncomputable def impl_FdbOk (l0 : List Fent) : Option Bool :=
  (loop (fun z => impl_FdbOk_l0 l0 z) 0).bind (Sum.elim (fun d =>
    let t2 := decide ((l0.length : Int) ≤ 12)
    some t2) (fun r => some r))
noncomputable def F_impl_FdbOk : Fn := ⟨[.val false (.one (.sl cFent)) false], [.val false (.one .bool) true], fun a => impl_FdbOk a⟩
def a_impl_FdbOk : List (Nat × LoopAnn) := [(0, ⟨⟨[(7, false, [.dat (.int .i64)]), (16, false, [.undef]), (17, false, [.undef]), (18, false, [.undef]), (19, false, [.undef]), (20, false, [.undef]), (21, false, [.undef]), (22, false, [.undef]), (23, false, [.undef]), (24, false, [.undef]), (25, false, [.undef]), (26, false, [.undef]), (27, false, [.undef]), (28, false, [.undef]), (29, false, [.undef]), (30, false, [.undef]), (31, false, [.undef]), (32, false, [.undef]), (33, false, [.undef]), (34, false, [.undef])], []⟩,
    ⟨[], []⟩, some ⟨[(2, false, [.dat .bool])], []⟩⟩)]
theorem e_impl_FdbOk : fnDen ⟨tis, fns_197⟩ a_impl_FdbOk Try.f132 (codeOf Try.f132) [.val false (.one (.sl cFent)) false] [.val false (.one .bool) true] = fun a => impl_FdbOk a := by kernel_rfl
theorem m_impl_FdbOk : Meets Try.prog 132 F_impl_FdbOk := by
  have h := meets_of (ann := a_impl_FdbOk) (ps := [.val false (.one (.sl cFent)) false]) (rs := [.val false (.one .bool) true]) g_197 mixed Try.func132 (by kernel_rfl) (by kernel_rfl : Try.f132.body = some (codeOf Try.f132))
  rw [e_impl_FdbOk] at h
  exact h
noncomputable def fns_132 : List (FuncId × Fn) := (132, F_impl_FdbOk) :: fns_197
theorem g_132 : Good Try.prog ⟨tis, fns_132⟩ := g_197.cons m_impl_FdbOk
noncomputable def impl_isCount (n0 : Int) : Option Bool :=
  (impl_in n0 0 1000000).bind fun t4 =>
  some t4
noncomputable def F_impl_isCount : Fn := ⟨[.val false (.one (.int .i64)) false], [.val false (.one .bool) true], fun a => impl_isCount a⟩
def a_impl_isCount : List (Nat × LoopAnn) := []
theorem e_impl_isCount : fnDen ⟨tis, fns_132⟩ a_impl_isCount Try.f133 (codeOf Try.f133) [.val false (.one (.int .i64)) false] [.val false (.one .bool) true] = fun a => impl_isCount a := by kernel_rfl
theorem m_impl_isCount : Meets Try.prog 133 F_impl_isCount := by
  have h := meets_of (ann := a_impl_isCount) (ps := [.val false (.one (.int .i64)) false]) (rs := [.val false (.one .bool) true]) g_132 mixed Try.func133 (by kernel_rfl) (by kernel_rfl : Try.f133.body = some (codeOf Try.f133))
  rw [e_impl_isCount] at h
  exact h
noncomputable def fns_133 : List (FuncId × Fn) := (133, F_impl_isCount) :: fns_132
theorem g_133 : Good Try.prog ⟨tis, fns_133⟩ := g_132.cons m_impl_isCount
noncomputable def impl_BridgeOk_l0 (p0 : Bridge) (t8 : Int) : Option (Int ⊕ (Unit ⊕ Bool)) :=
  cond (decide (t8 < (p0.2.2.1.length : Int)))
    ((at? p0.2.2.1 t8).bind fun x10 =>
    (impl_PtOk x10).bind fun t13 =>
    cond (!t13) (some (.inr (.inr false))) (some (.inl (w64 (t8 + 1)))))
    (some (.inr (.inl ())))
noncomputable def impl_BridgeOk (p0 : Bridge) : Option Bool :=
  (loop (fun z => impl_BridgeOk_l0 p0 z) 0).bind (Sum.elim (fun d =>
    (impl_in p0.1 1 99).bind fun t18 =>
    (cond (!t18) (some true) (some (decide ((p0.2.1.length : Int) > 10)))).bind fun t25 =>
    (cond t25
      (some true)
      ((impl_in (p0.2.2.1.length : Int) 1 6).bind fun t30 =>
      some (!t30))).bind fun t32 =>
    (cond t32
      (some true)
      ((impl_FdbOk p0.2.2.2.1).bind fun t36 =>
      some (!t36))).bind fun t38 =>
    (cond t38
      (some true)
      ((impl_VtabOk (p0.2.2.2.2.1, p0.2.2.2.2.2.1) (p0.2.2.1.length : Int)).bind fun t45 =>
      some (!t45))).bind fun t47 =>
    cond t47
      (some false)
      ((impl_isCount p0.2.2.2.2.2.2.1).bind fun t50 =>
      (cond t50
        ((impl_isCount p0.2.2.2.2.2.2.2.1).bind fun t54 =>
        some t54)
        (some false)).bind fun t55 =>
      (cond t55
        ((impl_isCount p0.2.2.2.2.2.2.2.2.1).bind fun t59 =>
        some t59)
        (some false)).bind fun t60 =>
      (cond t60
        ((impl_isCount p0.2.2.2.2.2.2.2.2.2.1).bind fun t64 =>
        some t64)
        (some false)).bind fun t65 =>
      (cond t65
        ((impl_isCount p0.2.2.2.2.2.2.2.2.2.2).bind fun t69 =>
        some t69)
        (some false)).bind fun t70 =>
      some t70)) (fun r => some r))
noncomputable def F_impl_BridgeOk : Fn := ⟨[.val true cBridge false], [.val false (.one .bool) true], fun a => impl_BridgeOk a⟩
def a_impl_BridgeOk : List (Nat × LoopAnn) := [(0, ⟨⟨[(8, false, [.dat (.int .i64)])], []⟩,
    ⟨[], []⟩, some ⟨[(2, false, [.dat .bool])], []⟩⟩)]
theorem e_impl_BridgeOk : fnDen ⟨tis, fns_133⟩ a_impl_BridgeOk Try.f59 (codeOf Try.f59) [.val true cBridge false] [.val false (.one .bool) true] = fun a => impl_BridgeOk a := by kernel_rfl
theorem m_impl_BridgeOk : Meets Try.prog 59 F_impl_BridgeOk := by
  have h := meets_of (ann := a_impl_BridgeOk) (ps := [.val true cBridge false]) (rs := [.val false (.one .bool) true]) g_133 mixed Try.func59 (by kernel_rfl) (by kernel_rfl : Try.f59.body = some (codeOf Try.f59))
  rw [e_impl_BridgeOk] at h
  exact h
noncomputable def fns_59 : List (FuncId × Fn) := (59, F_impl_BridgeOk) :: fns_133
theorem g_59 : Good Try.prog ⟨tis, fns_59⟩ := g_133.cons m_impl_BridgeOk
noncomputable def impl_thing (v0 : Val) (name1 : List Int) : Option Bind :=
  (app ([1, 3, 1] : List Int) name1).bind fun zs7 =>
  some (zs7, v0.1, v0.2.1, v0.2.2.1, v0.2.2.2)
noncomputable def F_impl_thing : Fn := ⟨[.val true cVal false, .val false (.one (.sl (.one (.int .i64)))) false], [.val true cBind false], fun a => impl_thing a.1 a.2⟩
def a_impl_thing : List (Nat × LoopAnn) := []
theorem e_impl_thing : fnDen ⟨tis, fns_59⟩ a_impl_thing Try.f107 (codeOf Try.f107) [.val true cVal false, .val false (.one (.sl (.one (.int .i64)))) false] [.val true cBind false] = fun a => impl_thing a.1 a.2 := by kernel_rfl
theorem m_impl_thing : Meets Try.prog 107 F_impl_thing := by
  have h := meets_of (ann := a_impl_thing) (ps := [.val true cVal false, .val false (.one (.sl (.one (.int .i64)))) false]) (rs := [.val true cBind false]) g_59 mixed Try.func107 (by kernel_rfl) (by kernel_rfl : Try.f107.body = some (codeOf Try.f107))
  rw [e_impl_thing] at h
  exact h
noncomputable def fns_107 : List (FuncId × Fn) := (107, F_impl_thing) :: fns_59
theorem g_107 : Good Try.prog ⟨tis, fns_107⟩ := g_59.cons m_impl_thing
noncomputable def impl_number (n0 : Int) : Option Val :=
  some (2, n0, [], [])
noncomputable def F_impl_number : Fn := ⟨[.val false (.one (.int .i64)) false], [.val true cVal true], fun a => impl_number a⟩
def a_impl_number : List (Nat × LoopAnn) := []
theorem e_impl_number : fnDen ⟨tis, fns_107⟩ a_impl_number Try.f108 (codeOf Try.f108) [.val false (.one (.int .i64)) false] [.val true cVal true] = fun a => impl_number a := by kernel_rfl
theorem m_impl_number : Meets Try.prog 108 F_impl_number := by
  have h := meets_of (ann := a_impl_number) (ps := [.val false (.one (.int .i64)) false]) (rs := [.val true cVal true]) g_107 mixed Try.func108 (by kernel_rfl) (by kernel_rfl : Try.f108.body = some (codeOf Try.f108))
  rw [e_impl_number] at h
  exact h
noncomputable def fns_108 : List (FuncId × Fn) := (108, F_impl_number) :: fns_107
theorem g_108 : Good Try.prog ⟨tis, fns_108⟩ := g_107.cons m_impl_number
noncomputable def impl_LessVec (a0 : Vec) (b1 : Vec) : Option Bool :=
  cond (a0.1 != b1.1)
    (some (decide (a0.1 < b1.1)))
    (cond (a0.2.1 != b1.2.1)
      (some (decide (a0.2.1 < b1.2.1)))
      (cond (a0.2.2.2.1 != b1.2.2.2.1)
        (let t4 := decide (a0.2.2.2.1 < b1.2.2.2.1)
        some t4)
        (let t4_1 := decide (a0.2.2.2.2 < b1.2.2.2.2)
        some t4_1)))
noncomputable def F_impl_LessVec : Fn := ⟨[.val true cVec false, .val true cVec false], [.val false (.one .bool) true], fun a => impl_LessVec a.1 a.2⟩
def a_impl_LessVec : List (Nat × LoopAnn) := []
theorem e_impl_LessVec : fnDen ⟨tis, fns_108⟩ a_impl_LessVec Try.f153 (codeOf Try.f153) [.val true cVec false, .val true cVec false] [.val false (.one .bool) true] = fun a => impl_LessVec a.1 a.2 := by kernel_rfl
theorem m_impl_LessVec : Meets Try.prog 153 F_impl_LessVec := by
  have h := meets_of (ann := a_impl_LessVec) (ps := [.val true cVec false, .val true cVec false]) (rs := [.val false (.one .bool) true]) g_108 mixed Try.func153 (by kernel_rfl) (by kernel_rfl : Try.f153.body = some (codeOf Try.f153))
  rw [e_impl_LessVec] at h
  exact h
noncomputable def fns_153 : List (FuncId × Fn) := (153, F_impl_LessVec) :: fns_108
theorem g_153 : Good Try.prog ⟨tis, fns_153⟩ := g_108.cons m_impl_LessVec
noncomputable def impl_StepVec (v0 : Vec) (cost1 : Int) : Option (Vec × Bool) :=
  (impl_VecOk v0).bind fun t8 =>
  (cond (!t8)
    (some true)
    ((impl_in cost1 1 1000).bind fun t12 =>
    some (!t12))).bind fun t14 =>
  cond t14
    (some (v0, false))
    ((impl_VecOk (v0.1, w64 (v0.2.1 + cost1), w64 (v0.2.2.1 + 1), v0.2.2.2.1, v0.2.2.2.2)).bind fun t27 =>
    cond (!t27)
      (some (v0, false))
      (some ((v0.1, w64 (v0.2.1 + cost1), w64 (v0.2.2.1 + 1), v0.2.2.2.1, v0.2.2.2.2), true)))
noncomputable def F_impl_StepVec : Fn := ⟨[.val true cVec false, .val false (.one (.int .i64)) false], [.val true cVec true, .val false (.one .bool) true], fun a => impl_StepVec a.1 a.2⟩
def a_impl_StepVec : List (Nat × LoopAnn) := []
theorem e_impl_StepVec : fnDen ⟨tis, fns_153⟩ a_impl_StepVec Try.f203 (codeOf Try.f203) [.val true cVec false, .val false (.one (.int .i64)) false] [.val true cVec true, .val false (.one .bool) true] = fun a => impl_StepVec a.1 a.2 := by kernel_rfl
theorem m_impl_StepVec : Meets Try.prog 203 F_impl_StepVec := by
  have h := meets_of (ann := a_impl_StepVec) (ps := [.val true cVec false, .val false (.one (.int .i64)) false]) (rs := [.val true cVec true, .val false (.one .bool) true]) g_153 mixed Try.func203 (by kernel_rfl) (by kernel_rfl : Try.f203.body = some (codeOf Try.f203))
  rw [e_impl_StepVec] at h
  exact h
noncomputable def fns_203 : List (FuncId × Fn) := (203, F_impl_StepVec) :: fns_153
theorem g_203 : Good Try.prog ⟨tis, fns_203⟩ := g_153.cons m_impl_StepVec
noncomputable def impl_BestVec_l0 (p0 : Int) (i1 : List Pt) (t7 : Int) (t18 : Int) (b0 : Int) (b1 : Int) (b2 : Int) (b3 : Int) (b4 : Int) (b0_1 : Int) (b1_1 : Int) (b2_1 : Int) (b3_1 : Int) (b4_1 : Int) : Option ((Int × Int × Int × Int × Int × Int × Int × Int × Int × Int × Int × Int) ⊕ (Int × Int × Int × Int × Int × Int × Int × Int × Int × Int × Int)) :=
  cond (decide (t18 < (i1.length : Int)))
    ((at? i1 t18).bind fun x21 =>
    (cond (!x21.1) (some true) (some (!x21.2.2.1))).bind fun t30 =>
    cond t30
      (some (.inl (t7, w64 (t18 + 1), b0, b1, b2, b3, b4, b0_1, b1_1, b2_1, b3_1, b4_1)))
      ((impl_StepVec x21.2.2.2 x21.2.1).bind fun t36 =>
      (cond t36.2 (some (decide (t36.1.1 < p0))) (some false)).bind fun t45 =>
      (cond t45
        ((cond (decide (t7 < 0))
          (some true)
          ((impl_LessVec t36.1 (b0_1, b1_1, b2_1, b3_1, b4_1)).bind fun t52 =>
          some t52)).bind fun t53 =>
        some t53)
        (some false)).bind fun t54 =>
      cond t54
        (some (.inl (t18, w64 (t18 + 1), t36.1.1, t36.1.2.1, t36.1.2.2.1, p0, 0, t36.1.1, t36.1.2.1, t36.1.2.2.1, t36.1.2.2.2.1, t36.1.2.2.2.2)))
        (some (.inl (t7, w64 (t18 + 1), b0, b1, b2, b3, b4, b0_1, b1_1, b2_1, b3_1, b4_1)))))
    (some (.inr (t7, b0, b1, b2, b3, b4, b0_1, b1_1, b2_1, b3_1, b4_1)))
noncomputable def impl_BestVec (p0 : Int) (i1 : List Pt) : Option (Vec × Int) :=
  (loop (fun z => impl_BestVec_l0 p0 i1 z.1 z.2.1 z.2.2.1 z.2.2.2.1 z.2.2.2.2.1 z.2.2.2.2.2.1 z.2.2.2.2.2.2.1 z.2.2.2.2.2.2.2.1 z.2.2.2.2.2.2.2.2.1 z.2.2.2.2.2.2.2.2.2.1 z.2.2.2.2.2.2.2.2.2.2.1 z.2.2.2.2.2.2.2.2.2.2.2) ((-1), 0, p0, 0, 0, p0, 0, 0, 0, 0, 0, 0)).bind fun d =>
  some ((d.2.1, d.2.2.1, d.2.2.2.1, d.2.2.2.2.1, d.2.2.2.2.2.1), d.1)
noncomputable def F_impl_BestVec : Fn := ⟨[.val false (.one (.int .i64)) false, .val false (.one (.sl cPt)) false], [.val true cVec true, .val false (.one (.int .i64)) true], fun a => impl_BestVec a.1 a.2⟩
def a_impl_BestVec : List (Nat × LoopAnn) := [(0, ⟨⟨[(7, false, [.dat (.int .i64)]), (18, false, [.dat (.int .i64)]), (27, false, [.undef]), (28, false, [.undef]), (29, false, [.undef]), (41, false, [.undef]), (42, false, [.undef]), (43, false, [.undef]), (44, false, [.undef]), (47, false, [.undef]), (48, false, [.undef]), (49, false, [.undef]), (50, false, [.undef]), (51, false, [.undef]), (52, false, [.undef]), (53, false, [.undef])], [(266240, .box [.dat (.int .i64), .dat (.int .i64), .dat (.int .i64), .dat (.int .i64), .dat (.int .i64)]), (525312, .box [.dat (.int .i64), .dat (.int .i64), .dat (.int .i64), .dat (.int .i64), .dat (.int .i64)])]⟩,
    ⟨[(7, false, [.dat (.int .i64)])], [(266240, .box [.dat (.int .i64), .dat (.int .i64), .dat (.int .i64), .dat (.int .i64), .dat (.int .i64)]), (525312, .box [.dat (.int .i64), .dat (.int .i64), .dat (.int .i64), .dat (.int .i64), .dat (.int .i64)])]⟩, none⟩)]
theorem e_impl_BestVec : fnDen ⟨tis, fns_203⟩ a_impl_BestVec Try.f152 (codeOf Try.f152) [.val false (.one (.int .i64)) false, .val false (.one (.sl cPt)) false] [.val true cVec true, .val false (.one (.int .i64)) true] = fun a => impl_BestVec a.1 a.2 := by kernel_rfl
theorem m_impl_BestVec : Meets Try.prog 152 F_impl_BestVec := by
  have h := meets_of (ann := a_impl_BestVec) (ps := [.val false (.one (.int .i64)) false, .val false (.one (.sl cPt)) false]) (rs := [.val true cVec true, .val false (.one (.int .i64)) true]) g_203 mixed Try.func152 (by kernel_rfl) (by kernel_rfl : Try.f152.body = some (codeOf Try.f152))
  rw [e_impl_BestVec] at h
  exact h
noncomputable def fns_152 : List (FuncId × Fn) := (152, F_impl_BestVec) :: fns_203
theorem g_152 : Good Try.prog ⟨tis, fns_152⟩ := g_203.cons m_impl_BestVec
noncomputable def impl_SayVec (id0 : Int) (l1 : List Pt) (port2 : Int) : Option Vec :=
  (impl_BestVec id0 l1).bind fun t12 =>
  some (t12.1.1, t12.1.2.1, t12.1.2.2.1, t12.1.2.2.2.1, port2)
noncomputable def F_impl_SayVec : Fn := ⟨[.val false (.one (.int .i64)) false, .val false (.one (.sl cPt)) false, .val false (.one (.int .i64)) false], [.val true cVec true], fun a => impl_SayVec a.1 a.2.1 a.2.2⟩
def a_impl_SayVec : List (Nat × LoopAnn) := []
theorem e_impl_SayVec : fnDen ⟨tis, fns_152⟩ a_impl_SayVec Try.f154 (codeOf Try.f154) [.val false (.one (.int .i64)) false, .val false (.one (.sl cPt)) false, .val false (.one (.int .i64)) false] [.val true cVec true] = fun a => impl_SayVec a.1 a.2.1 a.2.2 := by kernel_rfl
theorem m_impl_SayVec : Meets Try.prog 154 F_impl_SayVec := by
  have h := meets_of (ann := a_impl_SayVec) (ps := [.val false (.one (.int .i64)) false, .val false (.one (.sl cPt)) false, .val false (.one (.int .i64)) false]) (rs := [.val true cVec true]) g_152 mixed Try.func154 (by kernel_rfl) (by kernel_rfl : Try.f154.body = some (codeOf Try.f154))
  rw [e_impl_SayVec] at h
  exact h
noncomputable def fns_154 : List (FuncId × Fn) := (154, F_impl_SayVec) :: fns_152
theorem g_154 : Good Try.prog ⟨tis, fns_154⟩ := g_152.cons m_impl_SayVec
noncomputable def impl_RoleOf (id0 : Int) (l1 : List Pt) (port2 : Int) : Option Int :=
  (impl_in port2 0 (w64 ((l1.length : Int) - 1))).bind fun t13 =>
  (cond (!t13)
    (some true)
    ((at? l1 port2).bind fun x18 =>
    some (!x18.1))).bind fun t22 =>
  cond t22
    (some 4)
    ((impl_BestVec id0 l1).bind fun t26 =>
    cond (t26.2 == port2)
      (some 1)
      ((at? l1 port2).bind fun x36 =>
      (cond (!x36.2.2.1)
        (some true)
        ((impl_SayVec id0 l1 port2).bind fun t44 =>
        (at? l1 port2).bind fun x47 =>
        (impl_LessVec t44 x47.2.2.2).bind fun t50 =>
        some t50)).bind fun t51 =>
      cond t51 (some 2) (some 3)))
noncomputable def F_impl_RoleOf : Fn := ⟨[.val false (.one (.int .i64)) false, .val false (.one (.sl cPt)) false, .val false (.one (.int .i64)) false], [.val false (.one (.int .i64)) true], fun a => impl_RoleOf a.1 a.2.1 a.2.2⟩
def a_impl_RoleOf : List (Nat × LoopAnn) := []
theorem e_impl_RoleOf : fnDen ⟨tis, fns_154⟩ a_impl_RoleOf Try.f79 (codeOf Try.f79) [.val false (.one (.int .i64)) false, .val false (.one (.sl cPt)) false, .val false (.one (.int .i64)) false] [.val false (.one (.int .i64)) true] = fun a => impl_RoleOf a.1 a.2.1 a.2.2 := by kernel_rfl
theorem m_impl_RoleOf : Meets Try.prog 79 F_impl_RoleOf := by
  have h := meets_of (ann := a_impl_RoleOf) (ps := [.val false (.one (.int .i64)) false, .val false (.one (.sl cPt)) false, .val false (.one (.int .i64)) false]) (rs := [.val false (.one (.int .i64)) true]) g_154 mixed Try.func79 (by kernel_rfl) (by kernel_rfl : Try.f79.body = some (codeOf Try.f79))
  rw [e_impl_RoleOf] at h
  exact h
noncomputable def fns_79 : List (FuncId × Fn) := (79, F_impl_RoleOf) :: fns_154
theorem g_79 : Good Try.prog ⟨tis, fns_79⟩ := g_154.cons m_impl_RoleOf
noncomputable def impl_bit (is0 : Bool) : Option Int :=
  cond is0 (some 1) (some 0)
noncomputable def F_impl_bit : Fn := ⟨[.val false (.one .bool) false], [.val false (.one (.int .i64)) true], fun a => impl_bit a⟩
def a_impl_bit : List (Nat × LoopAnn) := []
theorem e_impl_bit : fnDen ⟨tis, fns_79⟩ a_impl_bit Try.f185 (codeOf Try.f185) [.val false (.one .bool) false] [.val false (.one (.int .i64)) true] = fun a => impl_bit a := by kernel_rfl
theorem m_impl_bit : Meets Try.prog 185 F_impl_bit := by
  have h := meets_of (ann := a_impl_bit) (ps := [.val false (.one .bool) false]) (rs := [.val false (.one (.int .i64)) true]) g_79 mixed Try.func185 (by kernel_rfl) (by kernel_rfl : Try.f185.body = some (codeOf Try.f185))
  rw [e_impl_bit] at h
  exact h
noncomputable def fns_185 : List (FuncId × Fn) := (185, F_impl_bit) :: fns_79
theorem g_185 : Good Try.prog ⟨tis, fns_185⟩ := g_79.cons m_impl_bit
noncomputable def impl_portThing (b0 : Bridge) (c1 : Int) (p2 : Int) : Option Int :=
  cond (c1 == 1)
    ((at? b0.2.2.1 p2).bind fun x13 =>
    (impl_bit x13.1).bind fun t16 =>
    some t16)
    (cond (c1 == 2)
      ((at? b0.2.2.1 p2).bind fun x22 =>
      some x22.2.1)
      (cond (c1 == 3)
        ((impl_RoleOf b0.1 b0.2.2.1 p2).bind fun t32 =>
        some t32)
        ((at? b0.2.2.2.2.2.1 p2).bind fun x37 =>
        some x37)))
noncomputable def F_impl_portThing : Fn := ⟨[.val true cBridge false, .val false (.one (.int .i64)) false, .val false (.one (.int .i64)) false], [.val false (.one (.int .i64)) true], fun a => impl_portThing a.1 a.2.1 a.2.2⟩
def a_impl_portThing : List (Nat × LoopAnn) := []
theorem e_impl_portThing : fnDen ⟨tis, fns_185⟩ a_impl_portThing Try.f109 (codeOf Try.f109) [.val true cBridge false, .val false (.one (.int .i64)) false, .val false (.one (.int .i64)) false] [.val false (.one (.int .i64)) true] = fun a => impl_portThing a.1 a.2.1 a.2.2 := by kernel_rfl
theorem m_impl_portThing : Meets Try.prog 109 F_impl_portThing := by
  have h := meets_of (ann := a_impl_portThing) (ps := [.val true cBridge false, .val false (.one (.int .i64)) false, .val false (.one (.int .i64)) false]) (rs := [.val false (.one (.int .i64)) true]) g_185 mixed Try.func109 (by kernel_rfl) (by kernel_rfl : Try.f109.body = some (codeOf Try.f109))
  rw [e_impl_portThing] at h
  exact h
noncomputable def fns_109 : List (FuncId × Fn) := (109, F_impl_portThing) :: fns_185
theorem g_109 : Good Try.prog ⟨tis, fns_109⟩ := g_185.cons m_impl_portThing
noncomputable def impl_MibList_l0 (p0 : Bridge) (t32 : Int) (t3 : List Bind) : Option ((Int × List Bind) ⊕ (List Bind)) :=
  cond (decide (t32 < ([p0.2.2.2.2.2.2.1, p0.2.2.2.2.2.2.2.1, p0.2.2.2.2.2.2.2.2.1, p0.2.2.2.2.2.2.2.2.2.1].length : Int)))
    ((ix [p0.2.2.2.2.2.2.1, p0.2.2.2.2.2.2.2.1, p0.2.2.2.2.2.2.2.2.1, p0.2.2.2.2.2.2.2.2.2.1].length t32).bind fun j35 =>
    ([p0.2.2.2.2.2.2.1, p0.2.2.2.2.2.2.2.1, p0.2.2.2.2.2.2.2.2.1, p0.2.2.2.2.2.2.2.2.2.1][j35]?).bind fun x36 =>
    (impl_number x36).bind fun t39 =>
    (impl_thing t39 [1, w64 (t32 + 2)]).bind fun t43 =>
    (app t3 [t43]).bind fun zs45 =>
    some (.inl (w64 (t32 + 1), zs45)))
    (some (.inr t3))
noncomputable def impl_MibList_l4 (p0 : Bridge) (t6 : Int) (t54 : Int) (t3_3 : List Bind) : Option ((Int × List Bind) ⊕ (List Bind)) :=
  cond (decide (t54 < (p0.2.2.1.length : Int)))
    ((impl_portThing p0 t6 t54).bind fun t61 =>
    (impl_number t61).bind fun t62 =>
    (impl_thing t62 [2, t6, w64 (t54 + 1)]).bind fun t67 =>
    (app t3_3 [t67]).bind fun zs69 =>
    some (.inl (w64 (t54 + 1), zs69)))
    (some (.inr t3_3))
noncomputable def impl_MibList_l2 (p0 : Bridge) (t6 : Int) (t3_2 : List Bind) : Option ((Int × List Bind) ⊕ (List Bind)) :=
  cond (decide (t6 ≤ 4))
    ((loop (fun z => impl_MibList_l4 p0 t6 z.1 z.2) (0, t3_2)).bind fun d_1 =>
    some (.inl (w64 (t6 + 1), d_1)))
    (some (.inr t3_2))
noncomputable def impl_MibList_l8 (p0 : Bridge) (t8 : Int) (t79 : Int) (t3_7 : List Bind) : Option ((Int × List Bind) ⊕ (List Bind)) :=
  cond (decide (t79 < (p0.2.2.2.2.1.length : Int)))
    ((at? p0.2.2.2.2.1 t79).bind fun x81 =>
    (ix [1, x81.2.1, x81.2.2].length (w64 (t8 - 1))).bind fun j91 =>
    ([1, x81.2.1, x81.2.2][j91]?).bind fun x92 =>
    (impl_number x92).bind fun t93 =>
    (impl_thing t93 [3, t8, x81.1]).bind fun t98 =>
    (app t3_7 [t98]).bind fun zs100 =>
    some (.inl (w64 (t79 + 1), zs100)))
    (some (.inr t3_7))
noncomputable def impl_MibList_l6 (p0 : Bridge) (t8 : Int) (t3_6 : List Bind) : Option ((Int × List Bind) ⊕ (List Bind)) :=
  cond (decide (t8 ≤ 3))
    ((loop (fun z => impl_MibList_l8 p0 t8 z.1 z.2) (0, t3_6)).bind fun d_3 =>
    some (.inl (w64 (t8 + 1), d_3)))
    (some (.inr t3_6))
noncomputable def impl_MibList_l10 (p0 : Bridge) (t105 : Int) (t3_10 : List Bind) : Option ((Int × List Bind) ⊕ (List Bind)) :=
  cond (decide (t105 < (p0.2.2.2.1.length : Int)))
    ((at? p0.2.2.2.1 t105).bind fun x107 =>
    (impl_number (w64 (x107.2.2.1 + 1))).bind fun t113 =>
    (impl_thing t113 [4, 1, x107.1, x107.2.1]).bind fun t119 =>
    (app t3_10 [t119]).bind fun zs121 =>
    some (.inl (w64 (t105 + 1), zs121)))
    (some (.inr t3_10))
noncomputable def impl_MibList (p0 : Bridge) : Option (List Bind) :=
  (impl_BridgeOk p0).bind fun t14 =>
  cond (!t14)
    (some [])
    ((impl_thing (4, 0, p0.2.1, []) ([1, 1] : List Int)).bind fun t20 =>
    (loop (fun z => impl_MibList_l0 p0 z.1 z.2) (0, [t20])).bind fun d =>
    (loop (fun z => impl_MibList_l2 p0 z.1 z.2) (1, d)).bind fun d_2 =>
    (loop (fun z => impl_MibList_l6 p0 z.1 z.2) (1, d_2)).bind fun d_4 =>
    (loop (fun z => impl_MibList_l10 p0 z.1 z.2) (0, d_4)).bind fun d_5 =>
    some d_5)
noncomputable def F_impl_MibList : Fn := ⟨[.val true cBridge false], [.val false (.one (.sl cBind)) false], fun a => impl_MibList a⟩
def a_impl_MibList : List (Nat × LoopAnn) := [(0, ⟨⟨[(3, false, [.own 1000000000]), (32, false, [.dat (.int .i64)])], [(1000000000, .root cBind false)]⟩,
    ⟨[(3, false, [.own 1000000300])], [(1000000300, .root cBind false)]⟩, none⟩),
  (2, ⟨⟨[(3, false, [.own 1000002000]), (6, false, [.dat (.int .i64)])], [(1000002000, .root cBind false)]⟩,
    ⟨[(3, false, [.own 1000002300])], [(1000002300, .root cBind false)]⟩, none⟩),
  (4, ⟨⟨[(3, false, [.own 1000004000]), (54, false, [.dat (.int .i64)])], [(1000004000, .root cBind false)]⟩,
    ⟨[(3, false, [.own 1000004300])], [(1000004300, .root cBind false)]⟩, none⟩),
  (6, ⟨⟨[(3, false, [.own 1000006000]), (8, false, [.dat (.int .i64)])], [(1000006000, .root cBind false)]⟩,
    ⟨[(3, false, [.own 1000006300])], [(1000006300, .root cBind false)]⟩, none⟩),
  (8, ⟨⟨[(3, false, [.own 1000008000]), (79, false, [.dat (.int .i64)])], [(1000008000, .root cBind false)]⟩,
    ⟨[(3, false, [.own 1000008300])], [(1000008300, .root cBind false)]⟩, none⟩),
  (10, ⟨⟨[(3, false, [.own 1000010000]), (105, false, [.dat (.int .i64)])], [(1000010000, .root cBind false)]⟩,
    ⟨[(3, false, [.own 1000010300])], [(1000010300, .root cBind false)]⟩, none⟩)]
theorem e_impl_MibList : fnDen ⟨tis, fns_109⟩ a_impl_MibList Try.f37 (codeOf Try.f37) [.val true cBridge false] [.val false (.one (.sl cBind)) false] = fun a => impl_MibList a := by kernel_rfl
theorem m_impl_MibList : Meets Try.prog 37 F_impl_MibList := by
  have h := meets_of (ann := a_impl_MibList) (ps := [.val true cBridge false]) (rs := [.val false (.one (.sl cBind)) false]) g_109 mixed Try.func37 (by kernel_rfl) (by kernel_rfl : Try.f37.body = some (codeOf Try.f37))
  rw [e_impl_MibList] at h
  exact h
noncomputable def fns_37 : List (FuncId × Fn) := (37, F_impl_MibList) :: fns_109
theorem g_37 : Good Try.prog ⟨tis, fns_37⟩ := g_109.cons m_impl_MibList
noncomputable def impl_Places (b0 : Bridge) : Option Int :=
  (impl_MibList b0).bind fun t4 =>
  some (t4.length : Int)
noncomputable def F_impl_Places : Fn := ⟨[.val true cBridge false], [.val false (.one (.int .i64)) true], fun a => impl_Places a⟩
def a_impl_Places : List (Nat × LoopAnn) := []
theorem e_impl_Places : fnDen ⟨tis, fns_37⟩ a_impl_Places Try.f47 (codeOf Try.f47) [.val true cBridge false] [.val false (.one (.int .i64)) true] = fun a => impl_Places a := by kernel_rfl
theorem m_impl_Places : Meets Try.prog 47 F_impl_Places := by
  have h := meets_of (ann := a_impl_Places) (ps := [.val true cBridge false]) (rs := [.val false (.one (.int .i64)) true]) g_37 mixed Try.func47 (by kernel_rfl) (by kernel_rfl : Try.f47.body = some (codeOf Try.f47))
  rw [e_impl_Places] at h
  exact h
noncomputable def fns_47 : List (FuncId × Fn) := (47, F_impl_Places) :: fns_37
theorem g_47 : Good Try.prog ⟨tis, fns_47⟩ := g_37.cons m_impl_Places
noncomputable def laws_FnExactPlaces (aB0 : Bridge) : Option Bool :=
  (laws_szBridge aB0 1048576).bind fun t9 =>
  cond (decide (t9 < 0))
    (some true)
    ((laws_toBridge aB0).bind fun t13 =>
    (spec_Places t13).bind fun t14 =>
    (laws_toBridge aB0).bind fun t16 =>
    (impl_Places t16).bind fun t18 =>
    cond (t18 != t14)
      (some false)
      ((laws_toBridge aB0).bind fun t24 =>
      (laws_eqBridge t16 t24).bind fun t25 =>
      cond (!t25) (some false) (some true)))
noncomputable def F_laws_FnExactPlaces : Fn := ⟨[.val true cBridge false], [.val false (.one .bool) true], fun a => laws_FnExactPlaces a⟩
def a_laws_FnExactPlaces : List (Nat × LoopAnn) := []
theorem e_laws_FnExactPlaces : fnDen ⟨tis, fns_47⟩ a_laws_FnExactPlaces Try.f9 (codeOf Try.f9) [.val true cBridge false] [.val false (.one .bool) true] = fun a => laws_FnExactPlaces a := by kernel_rfl
theorem m_laws_FnExactPlaces : Meets Try.prog 9 F_laws_FnExactPlaces := by
  have h := meets_of (ann := a_laws_FnExactPlaces) (ps := [.val true cBridge false]) (rs := [.val false (.one .bool) true]) g_47 mixed Try.func9 (by kernel_rfl) (by kernel_rfl : Try.f9.body = some (codeOf Try.f9))
  rw [e_laws_FnExactPlaces] at h
  exact h
noncomputable def fns_9 : List (FuncId × Fn) := (9, F_laws_FnExactPlaces) :: fns_47
theorem g_9 : Good Try.prog ⟨tis, fns_9⟩ := g_47.cons m_laws_FnExactPlaces
end Go.V.W
