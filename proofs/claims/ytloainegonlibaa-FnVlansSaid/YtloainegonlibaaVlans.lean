/- The law FnVlans: its functions as plain ones, what they come to, worked out. No condition. -/
import Derived.Test.YtloainegonlibaaV3
import Derived.Test.YtloainegonlibaaProg
import Derived.Test.YtloainegonlibaaChecked
import Derived.KernelRfl
namespace Go.V.W
open Go.Proofs
set_option linter.unusedVariables false
@[reducible] def cVrow : Cs := .cons (.int .i64) (.cons (.int .i64) (.one (.int .i64)))
@[reducible] def cVtab : Cs := .cons (.sl cVrow) (.one (.sl (.one (.int .i64))))
@[reducible] def cVec : Cs := .cons (.int .i64) (.cons (.int .i64) (.cons (.int .i64) (.cons (.int .i64) (.one (.int .i64)))))
@[reducible] def cPt : Cs := .cons .bool (.cons (.int .i64) (.cons .bool (.cons (.int .i64) (.cons (.int .i64) (.cons (.int .i64) (.cons (.int .i64) (.one (.int .i64))))))))
@[reducible] def cFent : Cs := .cons (.int .i64) (.cons (.int .i64) (.cons (.int .i64) (.cons (.int .i64) (.one .bool))))
@[reducible] def cBridge : Cs := .cons (.int .i64) (.cons .str (.cons (.sl cPt) (.cons (.sl cFent) (.cons (.sl cVrow) (.cons (.sl (.one (.int .i64))) (.cons (.int .i64) (.cons (.int .i64) (.cons (.int .i64) (.cons (.int .i64) (.one (.int .i64)))))))))))
@[reducible] def cVal : Cs := .cons (.int .i64) (.cons (.int .i64) (.cons .str (.one (.sl (.one (.int .i64))))))
@[reducible] def cBind : Cs := .cons (.sl (.one (.int .i64))) (.cons (.int .i64) (.cons (.int .i64) (.cons .str (.one (.sl (.one (.int .i64)))))))
@[reducible] def cFrame : Cs := .cons (.int .i64) (.cons (.int .i64) (.cons (.int .i64) (.one (.sl (.one (.int .u8))))))
@[reducible] def cOut : Cs := .cons (.int .i64) (.cons (.int .i64) (.cons (.int .i64) (.cons (.int .i64) (.one (.sl (.one (.int .u8)))))))
abbrev Vrow : Type := Int × Int × Int
abbrev Vtab : Type := List Vrow × List Int
abbrev Vec : Type := Int × Int × Int × Int × Int
abbrev Pt : Type := Bool × Int × Bool × Int × Int × Int × Int × Int
abbrev Fent : Type := Int × Int × Int × Int × Bool
abbrev Bridge : Type := Int × List UInt8 × List Pt × List Fent × List Vrow × List Int × Int × Int × Int × Int × Int
abbrev Val : Type := Int × Int × List UInt8 × List Int
abbrev Bind : Type := List Int × Int × Int × List UInt8 × List Int
abbrev Frame : Type := Int × Int × Int × List Int
abbrev Out : Type := Int × Int × Int × Int × List Int
def tis : List (Nat × TInfo) := [(2, ⟨false, .one (.int .i64), [], 0⟩),
  (3, ⟨false, .one (.int .i64), [], 0⟩),
  (4, ⟨false, .one .bool, [], 0⟩),
  (5, ⟨false, .one (.int .u8), [], 0⟩),
  (6, ⟨false, .one (.int .u8), [], 0⟩),
  (9, ⟨false, .one .str, [], 0⟩),
  (10, ⟨false, .one .str, [], 0⟩),
  (11, ⟨false, .one .str, [], 0⟩),
  (12, ⟨false, .one (.int .u64), [], 0⟩),
  (21, ⟨false, .one (.int .i32), [], 0⟩),
  (22, ⟨false, .one (.sl (.one (.int .u8))), [], 5⟩),
  (24, ⟨false, .one (.sl cPt), [], 114⟩),
  (25, ⟨false, .one (.sl cFent), [], 166⟩),
  (26, ⟨false, .one (.sl cVrow), [], 164⟩),
  (27, ⟨false, .one (.sl (.one (.int .i64))), [], 3⟩),
  (28, ⟨true, cVtab, [(26, 0), (27, 1)], 0⟩),
  (29, ⟨true, cVtab, [(26, 0), (27, 1)], 0⟩),
  (30, ⟨true, cBridge, [(3, 0), (9, 1), (24, 2), (25, 3), (29, 4), (3, 6), (3, 7), (3, 8), (3, 9), (3, 10)], 0⟩),
  (31, ⟨true, cBridge, [(3, 0), (9, 1), (24, 2), (25, 3), (29, 4), (3, 6), (3, 7), (3, 8), (3, 9), (3, 10)], 0⟩),
  (36, ⟨true, cVal, [(3, 0), (3, 1), (9, 2), (27, 3)], 0⟩),
  (37, ⟨true, cVal, [(3, 0), (3, 1), (9, 2), (27, 3)], 0⟩),
  (39, ⟨true, cBind, [(27, 0), (37, 1)], 0⟩),
  (40, ⟨true, cBind, [(27, 0), (37, 1)], 0⟩),
  (41, ⟨false, .one (.sl cBind), [], 40⟩),
  (43, ⟨false, .one (.sl cOut), [], 49⟩),
  (46, ⟨true, cFrame, [(3, 0), (3, 1), (3, 2), (22, 3)], 0⟩),
  (47, ⟨true, cFrame, [(3, 0), (3, 1), (3, 2), (22, 3)], 0⟩),
  (48, ⟨true, cOut, [(3, 0), (47, 1)], 0⟩),
  (49, ⟨true, cOut, [(3, 0), (47, 1)], 0⟩),
  (50, ⟨false, .one (.sl cPt), [], 202⟩),
  (51, ⟨false, .one (.sl cFent), [], 204⟩),
  (52, ⟨false, .one (.sl cVrow), [], 265⟩),
  (53, ⟨true, cVtab, [(52, 0), (27, 1)], 0⟩),
  (54, ⟨true, cVtab, [(52, 0), (27, 1)], 0⟩),
  (55, ⟨true, cBridge, [(3, 0), (9, 1), (50, 2), (51, 3), (54, 4), (3, 6), (3, 7), (3, 8), (3, 9), (3, 10)], 0⟩),
  (56, ⟨true, cBridge, [(3, 0), (9, 1), (50, 2), (51, 3), (54, 4), (3, 6), (3, 7), (3, 8), (3, 9), (3, 10)], 0⟩),
  (62, ⟨false, .one (.sl (.cons (.int .i64) (.cons (.sl (.one (.int .u8))) (.cons (.int .i64) (.cons (.int .i64) (.cons (.int .i64) (.cons (.int .i64) (.cons (.int .i64) (.cons (.sl cBind) (.cons (.int .i64) (.cons .str (.cons (.sl cPt) (.cons (.sl cFent) (.cons (.sl cVrow) (.cons (.sl (.one (.int .i64))) (.cons (.int .i64) (.cons (.int .i64) (.cons (.int .i64) (.cons (.int .i64) (.cons (.int .i64) (.cons (.int .i64) (.one (.int .i64))))))))))))))))))))))), [], 222⟩),
  (63, ⟨true, .cons (.int .i64) (.cons .str (.cons (.sl cPt) (.cons (.sl cFent) (.cons (.sl cVrow) (.cons (.sl (.one (.int .i64))) (.cons (.int .i64) (.cons (.int .i64) (.cons (.int .i64) (.cons (.int .i64) (.cons (.int .i64) (.cons .str (.cons (.sl (.cons (.int .i64) (.cons (.sl (.one (.int .u8))) (.cons (.int .i64) (.cons (.int .i64) (.cons (.int .i64) (.cons (.int .i64) (.cons (.int .i64) (.cons (.sl cBind) (.cons (.int .i64) (.cons .str (.cons (.sl cPt) (.cons (.sl cFent) (.cons (.sl cVrow) (.cons (.sl (.one (.int .i64))) (.cons (.int .i64) (.cons (.int .i64) (.cons (.int .i64) (.cons (.int .i64) (.cons (.int .i64) (.cons (.int .i64) (.one (.int .i64))))))))))))))))))))))) (.cons (.int .i64) (.one (.int .i64))))))))))))))), [(56, 0), (9, 11), (62, 12), (3, 13), (3, 14)], 0⟩),
  (64, ⟨true, .cons (.int .i64) (.cons .str (.cons (.sl cPt) (.cons (.sl cFent) (.cons (.sl cVrow) (.cons (.sl (.one (.int .i64))) (.cons (.int .i64) (.cons (.int .i64) (.cons (.int .i64) (.cons (.int .i64) (.cons (.int .i64) (.cons .str (.cons (.sl (.cons (.int .i64) (.cons (.sl (.one (.int .u8))) (.cons (.int .i64) (.cons (.int .i64) (.cons (.int .i64) (.cons (.int .i64) (.cons (.int .i64) (.cons (.sl cBind) (.cons (.int .i64) (.cons .str (.cons (.sl cPt) (.cons (.sl cFent) (.cons (.sl cVrow) (.cons (.sl (.one (.int .i64))) (.cons (.int .i64) (.cons (.int .i64) (.cons (.int .i64) (.cons (.int .i64) (.cons (.int .i64) (.cons (.int .i64) (.one (.int .i64))))))))))))))))))))))) (.cons (.int .i64) (.one (.int .i64))))))))))))))), [(56, 0), (9, 11), (62, 12), (3, 13), (3, 14)], 0⟩),
  (67, ⟨false, .one (.sl (.cons (.int .i64) (.cons (.sl (.one (.int .u8))) (.cons (.int .i64) (.cons (.int .i64) (.cons (.int .i64) (.cons (.int .i64) (.cons (.int .i64) (.cons (.sl cBind) (.cons (.int .i64) (.cons .str (.cons (.sl cPt) (.cons (.sl cFent) (.cons (.sl cVrow) (.cons (.sl (.one (.int .i64))) (.cons (.int .i64) (.cons (.int .i64) (.cons (.int .i64) (.cons (.int .i64) (.cons (.int .i64) (.cons (.int .i64) (.one (.int .i64))))))))))))))))))))))), [], 226⟩),
  (68, ⟨true, .cons (.int .i64) (.cons .str (.cons (.sl cPt) (.cons (.sl cFent) (.cons (.sl cVrow) (.cons (.sl (.one (.int .i64))) (.cons (.int .i64) (.cons (.int .i64) (.cons (.int .i64) (.cons (.int .i64) (.cons (.int .i64) (.cons .str (.cons (.sl (.cons (.int .i64) (.cons (.sl (.one (.int .u8))) (.cons (.int .i64) (.cons (.int .i64) (.cons (.int .i64) (.cons (.int .i64) (.cons (.int .i64) (.cons (.sl cBind) (.cons (.int .i64) (.cons .str (.cons (.sl cPt) (.cons (.sl cFent) (.cons (.sl cVrow) (.cons (.sl (.one (.int .i64))) (.cons (.int .i64) (.cons (.int .i64) (.cons (.int .i64) (.cons (.int .i64) (.cons (.int .i64) (.cons (.int .i64) (.one (.int .i64))))))))))))))))))))))) (.cons (.int .i64) (.one (.int .i64))))))))))))))), [(31, 0), (9, 11), (67, 12), (3, 13), (3, 14)], 0⟩),
  (69, ⟨true, .cons (.int .i64) (.cons .str (.cons (.sl cPt) (.cons (.sl cFent) (.cons (.sl cVrow) (.cons (.sl (.one (.int .i64))) (.cons (.int .i64) (.cons (.int .i64) (.cons (.int .i64) (.cons (.int .i64) (.cons (.int .i64) (.cons .str (.cons (.sl (.cons (.int .i64) (.cons (.sl (.one (.int .u8))) (.cons (.int .i64) (.cons (.int .i64) (.cons (.int .i64) (.cons (.int .i64) (.cons (.int .i64) (.cons (.sl cBind) (.cons (.int .i64) (.cons .str (.cons (.sl cPt) (.cons (.sl cFent) (.cons (.sl cVrow) (.cons (.sl (.one (.int .i64))) (.cons (.int .i64) (.cons (.int .i64) (.cons (.int .i64) (.cons (.int .i64) (.cons (.int .i64) (.cons (.int .i64) (.one (.int .i64))))))))))))))))))))))) (.cons (.int .i64) (.one (.int .i64))))))))))))))), [(31, 0), (9, 11), (67, 12), (3, 13), (3, 14)], 0⟩),
  (73, ⟨false, .one (.sl cBridge), [], 31⟩),
  (74, ⟨false, .one (.sl (.cons (.int .i64) (.cons (.int .i64) (.cons (.int .i64) (.one (.int .i64)))))), [], 148⟩),
  (75, ⟨false, .one (.sl (.cons (.int .i64) (.cons .bool (.cons (.int .i64) (.cons (.int .i64) (.cons (.int .i64) (.cons (.int .i64) (.one (.int .i64))))))))), [], 234⟩),
  (76, ⟨true, .cons (.sl cBridge) (.cons (.sl (.cons (.int .i64) (.cons (.int .i64) (.cons (.int .i64) (.one (.int .i64)))))) (.one (.sl (.cons (.int .i64) (.cons .bool (.cons (.int .i64) (.cons (.int .i64) (.cons (.int .i64) (.cons (.int .i64) (.one (.int .i64))))))))))), [(73, 0), (74, 1), (75, 2)], 0⟩),
  (77, ⟨true, .cons (.sl cBridge) (.cons (.sl (.cons (.int .i64) (.cons (.int .i64) (.cons (.int .i64) (.one (.int .i64)))))) (.one (.sl (.cons (.int .i64) (.cons .bool (.cons (.int .i64) (.cons (.int .i64) (.cons (.int .i64) (.cons (.int .i64) (.one (.int .i64))))))))))), [(73, 0), (74, 1), (75, 2)], 0⟩),
  (84, ⟨true, .cons (.int .i64) (.one (.int .i64)), [(3, 0), (3, 1)], 0⟩),
  (85, ⟨true, .cons (.int .i64) (.one (.int .i64)), [(3, 0), (3, 1)], 0⟩),
  (95, ⟨false, .one (.sl cBridge), [], 56⟩),
  (96, ⟨false, .one (.sl (.cons (.int .i64) (.cons (.int .i64) (.cons (.int .i64) (.one (.int .i64)))))), [], 252⟩),
  (97, ⟨false, .one (.sl (.cons (.int .i64) (.cons .bool (.cons (.int .i64) (.cons (.int .i64) (.cons (.int .i64) (.cons (.int .i64) (.one (.int .i64))))))))), [], 255⟩),
  (98, ⟨true, .cons (.sl cBridge) (.cons (.sl (.cons (.int .i64) (.cons (.int .i64) (.cons (.int .i64) (.one (.int .i64)))))) (.one (.sl (.cons (.int .i64) (.cons .bool (.cons (.int .i64) (.cons (.int .i64) (.cons (.int .i64) (.cons (.int .i64) (.one (.int .i64))))))))))), [(95, 0), (96, 1), (97, 2)], 0⟩),
  (99, ⟨true, .cons (.sl cBridge) (.cons (.sl (.cons (.int .i64) (.cons (.int .i64) (.cons (.int .i64) (.one (.int .i64)))))) (.one (.sl (.cons (.int .i64) (.cons .bool (.cons (.int .i64) (.cons (.int .i64) (.cons (.int .i64) (.cons (.int .i64) (.one (.int .i64))))))))))), [(95, 0), (96, 1), (97, 2)], 0⟩),
  (111, ⟨true, cVec, [(3, 0), (3, 1), (3, 2), (3, 3), (3, 4)], 0⟩),
  (112, ⟨true, cVec, [(3, 0), (3, 1), (3, 2), (3, 3), (3, 4)], 0⟩),
  (113, ⟨true, cPt, [(4, 0), (3, 1), (4, 2), (112, 3)], 0⟩),
  (114, ⟨true, cPt, [(4, 0), (3, 1), (4, 2), (112, 3)], 0⟩),
  (138, ⟨false, .one (.sl (.one .str)), [], 9⟩),
  (147, ⟨true, .cons (.int .i64) (.cons (.int .i64) (.cons (.int .i64) (.one (.int .i64)))), [(3, 0), (3, 1), (3, 2), (3, 3)], 0⟩),
  (148, ⟨true, .cons (.int .i64) (.cons (.int .i64) (.cons (.int .i64) (.one (.int .i64)))), [(3, 0), (3, 1), (3, 2), (3, 3)], 0⟩),
  (163, ⟨true, cVrow, [(3, 0), (3, 1), (3, 2)], 0⟩),
  (164, ⟨true, cVrow, [(3, 0), (3, 1), (3, 2)], 0⟩),
  (165, ⟨true, cFent, [(3, 0), (3, 1), (3, 2), (3, 3), (4, 4)], 0⟩),
  (166, ⟨true, cFent, [(3, 0), (3, 1), (3, 2), (3, 3), (4, 4)], 0⟩),
  (200, ⟨true, cVec, [(3, 0), (3, 1), (3, 2), (3, 3), (3, 4)], 0⟩),
  (201, ⟨true, cPt, [(4, 0), (3, 1), (4, 2), (200, 3)], 0⟩),
  (202, ⟨true, cPt, [(4, 0), (3, 1), (4, 2), (200, 3)], 0⟩),
  (204, ⟨true, cFent, [(3, 0), (3, 1), (3, 2), (3, 3), (4, 4)], 0⟩),
  (210, ⟨false, .one .err, [], 0⟩),
  (218, ⟨false, .one (.sl cBind), [], 293⟩),
  (219, ⟨true, .cons (.int .i64) (.cons (.int .i64) (.cons (.int .i64) (.cons (.int .i64) (.one (.sl cBind))))), [(3, 0), (3, 1), (3, 2), (3, 3), (218, 4)], 0⟩),
  (220, ⟨true, .cons (.int .i64) (.cons (.int .i64) (.cons (.int .i64) (.cons (.int .i64) (.one (.sl cBind))))), [(3, 0), (3, 1), (3, 2), (3, 3), (218, 4)], 0⟩),
  (221, ⟨true, .cons (.int .i64) (.cons (.sl (.one (.int .u8))) (.cons (.int .i64) (.cons (.int .i64) (.cons (.int .i64) (.cons (.int .i64) (.cons (.int .i64) (.cons (.sl cBind) (.cons (.int .i64) (.cons .str (.cons (.sl cPt) (.cons (.sl cFent) (.cons (.sl cVrow) (.cons (.sl (.one (.int .i64))) (.cons (.int .i64) (.cons (.int .i64) (.cons (.int .i64) (.cons (.int .i64) (.cons (.int .i64) (.cons (.int .i64) (.one (.int .i64))))))))))))))))))))), [(3, 0), (22, 1), (3, 2), (220, 3), (56, 8), (3, 19), (3, 20)], 0⟩),
  (222, ⟨true, .cons (.int .i64) (.cons (.sl (.one (.int .u8))) (.cons (.int .i64) (.cons (.int .i64) (.cons (.int .i64) (.cons (.int .i64) (.cons (.int .i64) (.cons (.sl cBind) (.cons (.int .i64) (.cons .str (.cons (.sl cPt) (.cons (.sl cFent) (.cons (.sl cVrow) (.cons (.sl (.one (.int .i64))) (.cons (.int .i64) (.cons (.int .i64) (.cons (.int .i64) (.cons (.int .i64) (.cons (.int .i64) (.cons (.int .i64) (.one (.int .i64))))))))))))))))))))), [(3, 0), (22, 1), (3, 2), (220, 3), (56, 8), (3, 19), (3, 20)], 0⟩),
  (223, ⟨true, .cons (.int .i64) (.cons (.int .i64) (.cons (.int .i64) (.cons (.int .i64) (.one (.sl cBind))))), [(3, 0), (3, 1), (3, 2), (3, 3), (41, 4)], 0⟩),
  (224, ⟨true, .cons (.int .i64) (.cons (.int .i64) (.cons (.int .i64) (.cons (.int .i64) (.one (.sl cBind))))), [(3, 0), (3, 1), (3, 2), (3, 3), (41, 4)], 0⟩),
  (225, ⟨true, .cons (.int .i64) (.cons (.sl (.one (.int .u8))) (.cons (.int .i64) (.cons (.int .i64) (.cons (.int .i64) (.cons (.int .i64) (.cons (.int .i64) (.cons (.sl cBind) (.cons (.int .i64) (.cons .str (.cons (.sl cPt) (.cons (.sl cFent) (.cons (.sl cVrow) (.cons (.sl (.one (.int .i64))) (.cons (.int .i64) (.cons (.int .i64) (.cons (.int .i64) (.cons (.int .i64) (.cons (.int .i64) (.cons (.int .i64) (.one (.int .i64))))))))))))))))))))), [(3, 0), (22, 1), (3, 2), (224, 3), (31, 8), (3, 19), (3, 20)], 0⟩),
  (226, ⟨true, .cons (.int .i64) (.cons (.sl (.one (.int .u8))) (.cons (.int .i64) (.cons (.int .i64) (.cons (.int .i64) (.cons (.int .i64) (.cons (.int .i64) (.cons (.sl cBind) (.cons (.int .i64) (.cons .str (.cons (.sl cPt) (.cons (.sl cFent) (.cons (.sl cVrow) (.cons (.sl (.one (.int .i64))) (.cons (.int .i64) (.cons (.int .i64) (.cons (.int .i64) (.cons (.int .i64) (.cons (.int .i64) (.cons (.int .i64) (.one (.int .i64))))))))))))))))))))), [(3, 0), (22, 1), (3, 2), (224, 3), (31, 8), (3, 19), (3, 20)], 0⟩),
  (233, ⟨true, .cons (.int .i64) (.cons .bool (.cons (.int .i64) (.cons (.int .i64) (.cons (.int .i64) (.cons (.int .i64) (.one (.int .i64))))))), [(3, 0), (4, 1), (112, 2)], 0⟩),
  (234, ⟨true, .cons (.int .i64) (.cons .bool (.cons (.int .i64) (.cons (.int .i64) (.cons (.int .i64) (.cons (.int .i64) (.one (.int .i64))))))), [(3, 0), (4, 1), (112, 2)], 0⟩),
  (239, ⟨true, .cons (.sl (.one (.int .u8))) (.cons (.int .i64) (.one (.int .i64))), [(22, 0), (3, 1), (3, 2)], 0⟩),
  (240, ⟨true, .cons (.sl (.one (.int .u8))) (.cons (.int .i64) (.one (.int .i64))), [(22, 0), (3, 1), (3, 2)], 0⟩),
  (252, ⟨true, .cons (.int .i64) (.cons (.int .i64) (.cons (.int .i64) (.one (.int .i64)))), [(3, 0), (3, 1), (3, 2), (3, 3)], 0⟩),
  (254, ⟨true, .cons (.int .i64) (.cons .bool (.cons (.int .i64) (.cons (.int .i64) (.cons (.int .i64) (.cons (.int .i64) (.one (.int .i64))))))), [(3, 0), (4, 1), (200, 2)], 0⟩),
  (255, ⟨true, .cons (.int .i64) (.cons .bool (.cons (.int .i64) (.cons (.int .i64) (.cons (.int .i64) (.cons (.int .i64) (.one (.int .i64))))))), [(3, 0), (4, 1), (200, 2)], 0⟩),
  (265, ⟨true, cVrow, [(3, 0), (3, 1), (3, 2)], 0⟩),
  (273, ⟨false, .one (.sl (.one .bool)), [], 4⟩),
  (281, ⟨false, .one (.int .u64), [], 0⟩),
  (291, ⟨true, cVal, [(3, 0), (3, 1), (9, 2), (27, 3)], 0⟩),
  (292, ⟨true, cBind, [(27, 0), (291, 1)], 0⟩),
  (293, ⟨true, cBind, [(27, 0), (291, 1)], 0⟩),
  (304, ⟨false, .one (.int .u32), [], 0⟩),
  (305, ⟨false, .one (.int .u8), [], 0⟩),
  (306, ⟨false, .one (.int .u8), [], 0⟩),
  (308, ⟨false, .one (.int .i32), [], 0⟩),
  (309, ⟨false, .one (.int .i32), [], 0⟩)]
theorem tisT : Tis Try.prog tis := Tis.of_all (by kernel_rfl)
theorem tisE : Eqs Try.prog tis := Eqs.of_all (by kernel_rfl)
theorem tisD : Deep Try.prog tis := Deep.of_all (by kernel_rfl)
theorem mixed : Try.prog.follows .mixedOrders = true := by kernel_rfl
def codeOf (fn : Func) : Code := match fn.body with | some c => c | none => .skip
theorem g_0 : Good Try.prog ⟨tis, []⟩ := ⟨tisT, tisE, fun f F h => by cases h⟩
noncomputable def laws_big (code0 : List Int) : Option Bool :=
  let t2 := decide ((code0.length : Int) > 1048576)
  some t2
noncomputable def F_laws_big : Fn := ⟨[.val false (.one (.sl (.one (.int .u8)))) false], [.val false (.one .bool) true], fun a => laws_big a⟩
def a_laws_big : List (Nat × LoopAnn) := []
theorem e_laws_big : fnDen ⟨tis, []⟩ a_laws_big Try.f11 (codeOf Try.f11) [.val false (.one (.sl (.one (.int .u8)))) false] [.val false (.one .bool) true] = fun a => laws_big a := by kernel_rfl
theorem m_laws_big : Meets Try.prog 11 F_laws_big := by
  have h := meets_of (ann := a_laws_big) (ps := [.val false (.one (.sl (.one (.int .u8)))) false]) (rs := [.val false (.one .bool) true]) g_0 mixed Try.func11 (by kernel_rfl) (by kernel_rfl : Try.f11.body = some (codeOf Try.f11))
  rw [e_laws_big] at h
  exact h
noncomputable def fns_11 : List (FuncId × Fn) := (11, F_laws_big) :: []
theorem g_11 : Good Try.prog ⟨tis, fns_11⟩ := g_0.cons m_laws_big
noncomputable def impl_in (n0 : Int) (low1 : Int) (high2 : Int) : Option Bool :=
  (cond (decide (n0 ≥ low1)) (some (decide (n0 ≤ high2))) (some false)).bind fun t14 =>
  some t14
noncomputable def F_impl_in : Fn := ⟨[.val false (.one (.int .i64)) false, .val false (.one (.int .i64)) false, .val false (.one (.int .i64)) false], [.val false (.one .bool) true], fun a => impl_in a.1 a.2.1 a.2.2⟩
def a_impl_in : List (Nat × LoopAnn) := []
theorem e_impl_in : fnDen ⟨tis, fns_11⟩ a_impl_in Try.f54 (codeOf Try.f54) [.val false (.one (.int .i64)) false, .val false (.one (.int .i64)) false, .val false (.one (.int .i64)) false] [.val false (.one .bool) true] = fun a => impl_in a.1 a.2.1 a.2.2 := by kernel_rfl
theorem m_impl_in : Meets Try.prog 54 F_impl_in := by
  have h := meets_of (ann := a_impl_in) (ps := [.val false (.one (.int .i64)) false, .val false (.one (.int .i64)) false, .val false (.one (.int .i64)) false]) (rs := [.val false (.one .bool) true]) g_11 mixed Try.func54 (by kernel_rfl) (by kernel_rfl : Try.f54.body = some (codeOf Try.f54))
  rw [e_impl_in] at h
  exact h
noncomputable def fns_54 : List (FuncId × Fn) := (54, F_impl_in) :: fns_11
theorem g_54 : Good Try.prog ⟨tis, fns_54⟩ := g_11.cons m_impl_in
noncomputable def impl_allPorts (ports0 : Int) : Option Int :=
  (shl .i64 1 ports0).bind fun t4 =>
  some (w64 (t4 - 1))
noncomputable def F_impl_allPorts : Fn := ⟨[.val false (.one (.int .i64)) false], [.val false (.one (.int .i64)) true], fun a => impl_allPorts a⟩
def a_impl_allPorts : List (Nat × LoopAnn) := []
theorem e_impl_allPorts : fnDen ⟨tis, fns_54⟩ a_impl_allPorts Try.f127 (codeOf Try.f127) [.val false (.one (.int .i64)) false] [.val false (.one (.int .i64)) true] = fun a => impl_allPorts a := by kernel_rfl
theorem m_impl_allPorts : Meets Try.prog 127 F_impl_allPorts := by
  have h := meets_of (ann := a_impl_allPorts) (ps := [.val false (.one (.int .i64)) false]) (rs := [.val false (.one (.int .i64)) true]) g_54 mixed Try.func127 (by kernel_rfl) (by kernel_rfl : Try.f127.body = some (codeOf Try.f127))
  rw [e_impl_allPorts] at h
  exact h
noncomputable def fns_127 : List (FuncId × Fn) := (127, F_impl_allPorts) :: fns_54
theorem g_127 : Good Try.prog ⟨tis, fns_127⟩ := g_54.cons m_impl_allPorts
noncomputable def impl_VtabNew_l0 (ports0 : Int) (t16 : Int) (b1 : List Int) : Option ((Int × List Int) ⊕ (List Int)) :=
  cond (decide (t16 < ports0))
    ((app b1 ([1] : List Int)).bind fun zs21 =>
    some (.inl (w64 (t16 + 1), zs21)))
    (some (.inr b1))
noncomputable def impl_VtabNew (ports0 : Int) : Option Vtab :=
  (impl_in ports0 1 6).bind fun t5 =>
  cond (!t5)
    (some ([], []))
    ((impl_allPorts ports0).bind fun t9 =>
    (impl_allPorts ports0).bind fun t11 =>
    (loop (fun z => impl_VtabNew_l0 ports0 z.1 z.2) (0, [])).bind fun d =>
    some ([(1, t9, t11)], d))
noncomputable def F_impl_VtabNew : Fn := ⟨[.val false (.one (.int .i64)) false], [.val true cVtab true], fun a => impl_VtabNew a⟩
def a_impl_VtabNew : List (Nat × LoopAnn) := [(0, ⟨⟨[(16, false, [.dat (.int .i64)])], [(794624, .box [.same 792576, .own 1000000000]), (1000000000, .root (.one (.int .i64)) true)]⟩,
    ⟨[], [(794624, .box [.same 792576, .own 1000000300]), (1000000300, .root (.one (.int .i64)) true)]⟩, none⟩)]
theorem e_impl_VtabNew : fnDen ⟨tis, fns_127⟩ a_impl_VtabNew Try.f55 (codeOf Try.f55) [.val false (.one (.int .i64)) false] [.val true cVtab true] = fun a => impl_VtabNew a := by kernel_rfl
theorem m_impl_VtabNew : Meets Try.prog 55 F_impl_VtabNew := by
  have h := meets_of (ann := a_impl_VtabNew) (ps := [.val false (.one (.int .i64)) false]) (rs := [.val true cVtab true]) g_127 mixed Try.func55 (by kernel_rfl) (by kernel_rfl : Try.f55.body = some (codeOf Try.f55))
  rw [e_impl_VtabNew] at h
  exact h
noncomputable def fns_55 : List (FuncId × Fn) := (55, F_impl_VtabNew) :: fns_127
theorem g_55 : Good Try.prog ⟨tis, fns_55⟩ := g_127.cons m_impl_VtabNew
noncomputable def impl_BridgeNew_l0 (ports1 : Int) (t20 : Int) (b0 : Int) (b1 : List UInt8) (b6 : Int) (b7 : Int) (b8 : Int) (b9 : Int) (b10 : Int) (b2 : List Pt) (b3 : List Fent) : Option ((Int × Int × List UInt8 × Int × Int × Int × Int × Int × List Pt × List Fent) ⊕ (Int × List UInt8 × Int × Int × Int × Int × Int × List Pt × List Fent)) :=
  cond (decide (t20 < ports1))
    ((app b2 [(false, 1, false, 0, 0, 0, 0, 0)]).bind fun zs26 =>
    some (.inl (w64 (t20 + 1), b0, b1, b6, b7, b8, b9, b10, zs26, b3)))
    (some (.inr (b0, b1, b6, b7, b8, b9, b10, b2, b3)))
noncomputable def impl_BridgeNew (id0 : Int) (ports1 : Int) : Option Bridge :=
  (impl_in id0 1 99).bind fun t7 =>
  (cond (!t7)
    (some true)
    ((impl_in ports1 1 6).bind fun t11 =>
    some (!t11))).bind fun t13 =>
  cond t13
    (some (0, [], [], [], [], [], 0, 0, 0, 0, 0))
    ((impl_VtabNew ports1).bind fun t17 =>
    (loop (fun z => impl_BridgeNew_l0 ports1 z.1 z.2.1 z.2.2.1 z.2.2.2.1 z.2.2.2.2.1 z.2.2.2.2.2.1 z.2.2.2.2.2.2.1 z.2.2.2.2.2.2.2.1 z.2.2.2.2.2.2.2.2.1 z.2.2.2.2.2.2.2.2.2) (0, id0, [], 0, 0, 0, 0, 0, [], [])).bind fun d =>
    some (d.1, d.2.1, d.2.2.2.2.2.2.2.1, d.2.2.2.2.2.2.2.2, t17.1, t17.2, d.2.2.1, d.2.2.2.1, d.2.2.2.2.1, d.2.2.2.2.2.1, d.2.2.2.2.2.2.1))
noncomputable def F_impl_BridgeNew : Fn := ⟨[.val false (.one (.int .i64)) false, .val false (.one (.int .i64)) false], [.val true cBridge true], fun a => impl_BridgeNew a.1 a.2⟩
def a_impl_BridgeNew : List (Nat × LoopAnn) := [(0, ⟨⟨[(20, false, [.dat (.int .i64)])], [(791552, .box [.dat (.int .i64), .dat .str, .own 1000000000, .own 1000000001, .same 789504, .same 789505, .dat (.int .i64), .dat (.int .i64), .dat (.int .i64), .dat (.int .i64), .dat (.int .i64)]), (1000000000, .root cPt true), (1000000001, .root cFent true)]⟩,
    ⟨[], [(791552, .box [.dat (.int .i64), .dat .str, .own 1000000300, .own 1000000301, .same 789504, .same 789505, .dat (.int .i64), .dat (.int .i64), .dat (.int .i64), .dat (.int .i64), .dat (.int .i64)]), (1000000300, .root cPt true), (1000000301, .root cFent true)]⟩, none⟩)]
theorem e_impl_BridgeNew : fnDen ⟨tis, fns_55⟩ a_impl_BridgeNew Try.f12 (codeOf Try.f12) [.val false (.one (.int .i64)) false, .val false (.one (.int .i64)) false] [.val true cBridge true] = fun a => impl_BridgeNew a.1 a.2 := by kernel_rfl
theorem m_impl_BridgeNew : Meets Try.prog 12 F_impl_BridgeNew := by
  have h := meets_of (ann := a_impl_BridgeNew) (ps := [.val false (.one (.int .i64)) false, .val false (.one (.int .i64)) false]) (rs := [.val true cBridge true]) g_55 mixed Try.func12 (by kernel_rfl) (by kernel_rfl : Try.f12.body = some (codeOf Try.f12))
  rw [e_impl_BridgeNew] at h
  exact h
noncomputable def fns_12 : List (FuncId × Fn) := (12, F_impl_BridgeNew) :: fns_55
theorem g_12 : Good Try.prog ⟨tis, fns_12⟩ := g_55.cons m_impl_BridgeNew
noncomputable def impl_copyFdb (l0 : List Fent) : Option (List Fent) :=
  (app [] l0).bind fun zs4 =>
  some zs4
noncomputable def F_impl_copyFdb : Fn := ⟨[.val false (.one (.sl cFent)) false], [.val false (.one (.sl cFent)) true], fun a => impl_copyFdb a⟩
def a_impl_copyFdb : List (Nat × LoopAnn) := []
theorem e_impl_copyFdb : fnDen ⟨tis, fns_12⟩ a_impl_copyFdb Try.f128 (codeOf Try.f128) [.val false (.one (.sl cFent)) false] [.val false (.one (.sl cFent)) true] = fun a => impl_copyFdb a := by kernel_rfl
theorem m_impl_copyFdb : Meets Try.prog 128 F_impl_copyFdb := by
  have h := meets_of (ann := a_impl_copyFdb) (ps := [.val false (.one (.sl cFent)) false]) (rs := [.val false (.one (.sl cFent)) true]) g_12 mixed Try.func128 (by kernel_rfl) (by kernel_rfl : Try.f128.body = some (codeOf Try.f128))
  rw [e_impl_copyFdb] at h
  exact h
noncomputable def fns_128 : List (FuncId × Fn) := (128, F_impl_copyFdb) :: fns_12
theorem g_128 : Good Try.prog ⟨tis, fns_128⟩ := g_12.cons m_impl_copyFdb
noncomputable def impl_copyInts (l0 : List Int) : Option (List Int) :=
  (app [] l0).bind fun zs4 =>
  some zs4
noncomputable def F_impl_copyInts : Fn := ⟨[.val false (.one (.sl (.one (.int .i64)))) false], [.val false (.one (.sl (.one (.int .i64)))) true], fun a => impl_copyInts a⟩
def a_impl_copyInts : List (Nat × LoopAnn) := []
theorem e_impl_copyInts : fnDen ⟨tis, fns_128⟩ a_impl_copyInts Try.f186 (codeOf Try.f186) [.val false (.one (.sl (.one (.int .i64)))) false] [.val false (.one (.sl (.one (.int .i64)))) true] = fun a => impl_copyInts a := by kernel_rfl
theorem m_impl_copyInts : Meets Try.prog 186 F_impl_copyInts := by
  have h := meets_of (ann := a_impl_copyInts) (ps := [.val false (.one (.sl (.one (.int .i64)))) false]) (rs := [.val false (.one (.sl (.one (.int .i64)))) true]) g_128 mixed Try.func186 (by kernel_rfl) (by kernel_rfl : Try.f186.body = some (codeOf Try.f186))
  rw [e_impl_copyInts] at h
  exact h
noncomputable def fns_186 : List (FuncId × Fn) := (186, F_impl_copyInts) :: fns_128
theorem g_186 : Good Try.prog ⟨tis, fns_186⟩ := g_128.cons m_impl_copyInts
noncomputable def impl_copyVtab (v0 : Vtab) : Option Vtab :=
  (app [] v0.1).bind fun zs5 =>
  (impl_copyInts v0.2).bind fun t8 =>
  some (zs5, t8)
noncomputable def F_impl_copyVtab : Fn := ⟨[.val true cVtab false], [.val true cVtab true], fun a => impl_copyVtab a⟩
def a_impl_copyVtab : List (Nat × LoopAnn) := []
theorem e_impl_copyVtab : fnDen ⟨tis, fns_186⟩ a_impl_copyVtab Try.f129 (codeOf Try.f129) [.val true cVtab false] [.val true cVtab true] = fun a => impl_copyVtab a := by kernel_rfl
theorem m_impl_copyVtab : Meets Try.prog 129 F_impl_copyVtab := by
  have h := meets_of (ann := a_impl_copyVtab) (ps := [.val true cVtab false]) (rs := [.val true cVtab true]) g_186 mixed Try.func129 (by kernel_rfl) (by kernel_rfl : Try.f129.body = some (codeOf Try.f129))
  rw [e_impl_copyVtab] at h
  exact h
noncomputable def fns_129 : List (FuncId × Fn) := (129, F_impl_copyVtab) :: fns_186
theorem g_129 : Good Try.prog ⟨tis, fns_129⟩ := g_186.cons m_impl_copyVtab
noncomputable def impl_copyBridge (b0 : Bridge) : Option Bridge :=
  (app [] b0.2.2.1).bind fun zs5 =>
  (impl_copyFdb b0.2.2.2.1).bind fun t9 =>
  (impl_copyVtab (b0.2.2.2.2.1, b0.2.2.2.2.2.1)).bind fun t12 =>
  some (b0.1, b0.2.1, zs5, t9, t12.1, t12.2, b0.2.2.2.2.2.2.1, b0.2.2.2.2.2.2.2.1, b0.2.2.2.2.2.2.2.2.1, b0.2.2.2.2.2.2.2.2.2.1, b0.2.2.2.2.2.2.2.2.2.2)
noncomputable def F_impl_copyBridge : Fn := ⟨[.val true cBridge false], [.val true cBridge true], fun a => impl_copyBridge a⟩
def a_impl_copyBridge : List (Nat × LoopAnn) := []
theorem e_impl_copyBridge : fnDen ⟨tis, fns_129⟩ a_impl_copyBridge Try.f56 (codeOf Try.f56) [.val true cBridge false] [.val true cBridge true] = fun a => impl_copyBridge a := by kernel_rfl
theorem m_impl_copyBridge : Meets Try.prog 56 F_impl_copyBridge := by
  have h := meets_of (ann := a_impl_copyBridge) (ps := [.val true cBridge false]) (rs := [.val true cBridge true]) g_129 mixed Try.func56 (by kernel_rfl) (by kernel_rfl : Try.f56.body = some (codeOf Try.f56))
  rw [e_impl_copyBridge] at h
  exact h
noncomputable def fns_56 : List (FuncId × Fn) := (56, F_impl_copyBridge) :: fns_129
theorem g_56 : Good Try.prog ⟨tis, fns_56⟩ := g_129.cons m_impl_copyBridge
noncomputable def impl_RowAt_l0 (v0 : Vtab) (id1 : Int) (t10 : Int) : Option (Int ⊕ (Unit ⊕ Int)) :=
  cond (decide (t10 < (v0.1.length : Int)))
    ((at? v0.1 t10).bind fun x13 =>
    cond (x13.1 == id1) (some (.inr (.inr t10))) (some (.inl (w64 (t10 + 1)))))
    (some (.inr (.inl ())))
noncomputable def impl_RowAt (v0 : Vtab) (id1 : Int) : Option Int :=
  (loop (fun z => impl_RowAt_l0 v0 id1 z) 0).bind (Sum.elim (fun d =>
    some (-1)) (fun r => some r))
noncomputable def F_impl_RowAt : Fn := ⟨[.val true cVtab false, .val false (.one (.int .i64)) false], [.val false (.one (.int .i64)) true], fun a => impl_RowAt a.1 a.2⟩
def a_impl_RowAt : List (Nat × LoopAnn) := [(0, ⟨⟨[(10, false, [.dat (.int .i64)])], []⟩,
    ⟨[], []⟩, some ⟨[(4, false, [.dat (.int .i64)])], []⟩⟩)]
theorem e_impl_RowAt : fnDen ⟨tis, fns_56⟩ a_impl_RowAt Try.f137 (codeOf Try.f137) [.val true cVtab false, .val false (.one (.int .i64)) false] [.val false (.one (.int .i64)) true] = fun a => impl_RowAt a.1 a.2 := by kernel_rfl
theorem m_impl_RowAt : Meets Try.prog 137 F_impl_RowAt := by
  have h := meets_of (ann := a_impl_RowAt) (ps := [.val true cVtab false, .val false (.one (.int .i64)) false]) (rs := [.val false (.one (.int .i64)) true]) g_56 mixed Try.func137 (by kernel_rfl) (by kernel_rfl : Try.f137.body = some (codeOf Try.f137))
  rw [e_impl_RowAt] at h
  exact h
noncomputable def fns_137 : List (FuncId × Fn) := (137, F_impl_RowAt) :: fns_56
theorem g_137 : Good Try.prog ⟨tis, fns_137⟩ := g_56.cons m_impl_RowAt
noncomputable def impl_VtabOk_l0 (p0 : Vtab) (i1 : Int) (t28 : Int) : Option (Int ⊕ (Unit ⊕ Bool)) :=
  cond (decide (t28 < (p0.1.length : Int)))
    ((at? p0.1 t28).bind fun x31 =>
    (impl_in x31.1 1 99).bind fun t35 =>
    (cond (!t35)
      (some true)
      ((cond (decide (t28 > 0))
        ((at? p0.1 (w64 (t28 - 1))).bind fun x45 =>
        some (decide (x45.1 ≥ x31.1)))
        (some false)).bind fun t51 =>
      some t51)).bind fun t52 =>
    (cond t52
      (some true)
      ((impl_allPorts i1).bind fun t57 =>
      (impl_in x31.2.1 0 t57).bind fun t58 =>
      some (!t58))).bind fun t60 =>
    (cond t60 (some true) (some ((bclr .i64 x31.2.2 x31.2.1) != 0))).bind fun t68 =>
    cond t68 (some (.inr (.inr false))) (some (.inl (w64 (t28 + 1)))))
    (some (.inr (.inl ())))
noncomputable def impl_VtabOk_l2 (p0 : Vtab) (t73 : Int) : Option (Int ⊕ (Unit ⊕ Bool)) :=
  cond (decide (t73 < (p0.2.length : Int)))
    ((at? p0.2 t73).bind fun x75 =>
    (impl_RowAt p0 x75).bind fun t79 =>
    cond (decide (t79 < 0)) (some (.inr (.inr false))) (some (.inl (w64 (t73 + 1)))))
    (some (.inr (.inl ())))
noncomputable def impl_VtabOk (p0 : Vtab) (i1 : Int) : Option Bool :=
  (impl_in i1 1 6).bind fun t10 =>
  (cond (!t10) (some true) (some ((p0.2.length : Int) != i1))).bind fun t18 =>
  (cond t18 (some true) (some (decide ((p0.1.length : Int) > 6)))).bind fun t24 =>
  cond t24
    (some false)
    ((loop (fun z => impl_VtabOk_l0 p0 i1 z) 0).bind (Sum.elim (fun d =>
      (loop (fun z => impl_VtabOk_l2 p0 z) 0).bind (Sum.elim (fun d_1 =>
        some true) (fun r => some r))) (fun r_1 => some r_1)))
noncomputable def F_impl_VtabOk : Fn := ⟨[.val true cVtab false, .val false (.one (.int .i64)) false], [.val false (.one .bool) true], fun a => impl_VtabOk a.1 a.2⟩
def a_impl_VtabOk : List (Nat × LoopAnn) := [(0, ⟨⟨[(28, false, [.dat (.int .i64)]), (38, false, [.undef]), (39, false, [.undef]), (40, false, [.undef]), (41, false, [.undef]), (42, false, [.undef]), (43, false, [.undef]), (44, false, [.undef]), (45, false, [.undef]), (46, false, [.undef]), (47, false, [.undef]), (48, false, [.undef]), (49, false, [.undef]), (50, false, [.undef]), (51, false, [.undef]), (54, false, [.undef]), (55, false, [.undef]), (56, false, [.undef]), (57, false, [.undef]), (58, false, [.undef]), (59, false, [.undef]), (62, false, [.undef]), (63, false, [.undef]), (64, false, [.undef]), (65, false, [.undef]), (66, false, [.undef]), (67, false, [.undef])], []⟩,
    ⟨[], []⟩, some ⟨[(4, false, [.dat .bool])], []⟩⟩),
  (2, ⟨⟨[(73, false, [.dat (.int .i64)])], []⟩,
    ⟨[], []⟩, some ⟨[(4, false, [.dat .bool])], []⟩⟩)]
theorem e_impl_VtabOk : fnDen ⟨tis, fns_137⟩ a_impl_VtabOk Try.f61 (codeOf Try.f61) [.val true cVtab false, .val false (.one (.int .i64)) false] [.val false (.one .bool) true] = fun a => impl_VtabOk a.1 a.2 := by kernel_rfl
theorem m_impl_VtabOk : Meets Try.prog 61 F_impl_VtabOk := by
  have h := meets_of (ann := a_impl_VtabOk) (ps := [.val true cVtab false, .val false (.one (.int .i64)) false]) (rs := [.val false (.one .bool) true]) g_137 mixed Try.func61 (by kernel_rfl) (by kernel_rfl : Try.f61.body = some (codeOf Try.f61))
  rw [e_impl_VtabOk] at h
  exact h
noncomputable def fns_61 : List (FuncId × Fn) := (61, F_impl_VtabOk) :: fns_137
theorem g_61 : Good Try.prog ⟨tis, fns_61⟩ := g_137.cons m_impl_VtabOk
noncomputable def impl_VecOk (v0 : Vec) : Option Bool :=
  (impl_in v0.1 1 99).bind fun t5 =>
  (cond t5
    ((impl_in v0.2.1 0 100000).bind fun t9 =>
    some t9)
    (some false)).bind fun t10 =>
  (cond t10
    ((impl_in v0.2.2.1 0 10).bind fun t14 =>
    some t14)
    (some false)).bind fun t15 =>
  (cond t15
    ((impl_in v0.2.2.2.1 1 99).bind fun t19 =>
    some t19)
    (some false)).bind fun t20 =>
  (cond t20
    ((impl_in v0.2.2.2.2 0 7).bind fun t24 =>
    some t24)
    (some false)).bind fun t25 =>
  some t25
noncomputable def F_impl_VecOk : Fn := ⟨[.val true cVec false], [.val false (.one .bool) true], fun a => impl_VecOk a⟩
def a_impl_VecOk : List (Nat × LoopAnn) := []
theorem e_impl_VecOk : fnDen ⟨tis, fns_61⟩ a_impl_VecOk Try.f168 (codeOf Try.f168) [.val true cVec false] [.val false (.one .bool) true] = fun a => impl_VecOk a := by kernel_rfl
theorem m_impl_VecOk : Meets Try.prog 168 F_impl_VecOk := by
  have h := meets_of (ann := a_impl_VecOk) (ps := [.val true cVec false]) (rs := [.val false (.one .bool) true]) g_61 mixed Try.func168 (by kernel_rfl) (by kernel_rfl : Try.f168.body = some (codeOf Try.f168))
  rw [e_impl_VecOk] at h
  exact h
noncomputable def fns_168 : List (FuncId × Fn) := (168, F_impl_VecOk) :: fns_61
theorem g_168 : Good Try.prog ⟨tis, fns_168⟩ := g_61.cons m_impl_VecOk
noncomputable def impl_PtOk (p0 : Pt) : Option Bool :=
  (impl_in p0.2.1 1 1000).bind fun t5 =>
  (cond (!t5)
    (some true)
    ((cond p0.2.2.1 (some (!p0.1)) (some false)).bind fun t14 =>
    some t14)).bind fun t15 =>
  cond t15
    (some false)
    (cond p0.2.2.1
      ((impl_VecOk p0.2.2.2).bind fun t20 =>
      some t20)
      (let t2 := p0.2.2.2.1 == 0 && (p0.2.2.2.2.1 == 0 && (p0.2.2.2.2.2.1 == 0 && (p0.2.2.2.2.2.2.1 == 0 && (p0.2.2.2.2.2.2.2 == 0))))
      some t2))
noncomputable def F_impl_PtOk : Fn := ⟨[.val true cPt false], [.val false (.one .bool) true], fun a => impl_PtOk a⟩
def a_impl_PtOk : List (Nat × LoopAnn) := []
theorem e_impl_PtOk : fnDen ⟨tis, fns_168⟩ a_impl_PtOk Try.f131 (codeOf Try.f131) [.val true cPt false] [.val false (.one .bool) true] = fun a => impl_PtOk a := by kernel_rfl
theorem m_impl_PtOk : Meets Try.prog 131 F_impl_PtOk := by
  have h := meets_of (ann := a_impl_PtOk) (ps := [.val true cPt false]) (rs := [.val false (.one .bool) true]) g_168 mixed Try.func131 (by kernel_rfl) (by kernel_rfl : Try.f131.body = some (codeOf Try.f131))
  rw [e_impl_PtOk] at h
  exact h
noncomputable def fns_131 : List (FuncId × Fn) := (131, F_impl_PtOk) :: fns_168
theorem g_131 : Good Try.prog ⟨tis, fns_131⟩ := g_168.cons m_impl_PtOk
noncomputable def impl_fentOk (e0 : Fent) : Option Bool :=
  (impl_in e0.1 1 99).bind fun t5 =>
  (cond t5
    ((impl_in e0.2.1 1 9999).bind fun t9 =>
    some t9)
    (some false)).bind fun t10 =>
  (cond t10
    ((impl_in e0.2.2.1 0 7).bind fun t14 =>
    some t14)
    (some false)).bind fun t15 =>
  (cond t15
    ((impl_in e0.2.2.2.1 0 4).bind fun t19 =>
    some t19)
    (some false)).bind fun t20 =>
  (cond t20
    ((cond (!e0.2.2.2.2) (some true) (some (e0.2.2.2.1 == 0))).bind fun t29 =>
    some t29)
    (some false)).bind fun t30 =>
  some t30
noncomputable def F_impl_fentOk : Fn := ⟨[.val true cFent false], [.val false (.one .bool) true], fun a => impl_fentOk a⟩
def a_impl_fentOk : List (Nat × LoopAnn) := []
theorem e_impl_fentOk : fnDen ⟨tis, fns_131⟩ a_impl_fentOk Try.f139 (codeOf Try.f139) [.val true cFent false] [.val false (.one .bool) true] = fun a => impl_fentOk a := by kernel_rfl
theorem m_impl_fentOk : Meets Try.prog 139 F_impl_fentOk := by
  have h := meets_of (ann := a_impl_fentOk) (ps := [.val true cFent false]) (rs := [.val false (.one .bool) true]) g_131 mixed Try.func139 (by kernel_rfl) (by kernel_rfl : Try.f139.body = some (codeOf Try.f139))
  rw [e_impl_fentOk] at h
  exact h
noncomputable def fns_139 : List (FuncId × Fn) := (139, F_impl_fentOk) :: fns_131
theorem g_139 : Good Try.prog ⟨tis, fns_139⟩ := g_131.cons m_impl_fentOk
noncomputable def impl_behind (e0 : Fent) (tag1 : Int) (mac2 : Int) : Option Bool :=
  (cond (decide (e0.1 > tag1))
    (some true)
    ((cond (e0.1 == tag1) (some (decide (e0.2.1 > mac2))) (some false)).bind fun t21 =>
    some t21)).bind fun t22 =>
  some t22
noncomputable def F_impl_behind : Fn := ⟨[.val true cFent false, .val false (.one (.int .i64)) false, .val false (.one (.int .i64)) false], [.val false (.one .bool) true], fun a => impl_behind a.1 a.2.1 a.2.2⟩
def a_impl_behind : List (Nat × LoopAnn) := []
theorem e_impl_behind : fnDen ⟨tis, fns_139⟩ a_impl_behind Try.f197 (codeOf Try.f197) [.val true cFent false, .val false (.one (.int .i64)) false, .val false (.one (.int .i64)) false] [.val false (.one .bool) true] = fun a => impl_behind a.1 a.2.1 a.2.2 := by kernel_rfl
theorem m_impl_behind : Meets Try.prog 197 F_impl_behind := by
  have h := meets_of (ann := a_impl_behind) (ps := [.val true cFent false, .val false (.one (.int .i64)) false, .val false (.one (.int .i64)) false]) (rs := [.val false (.one .bool) true]) g_139 mixed Try.func197 (by kernel_rfl) (by kernel_rfl : Try.f197.body = some (codeOf Try.f197))
  rw [e_impl_behind] at h
  exact h
noncomputable def fns_197 : List (FuncId × Fn) := (197, F_impl_behind) :: fns_139
theorem g_197 : Good Try.prog ⟨tis, fns_197⟩ := g_139.cons m_impl_behind
noncomputable def impl_FdbOk_l0 (l0 : List Fent) (t7 : Int) : Option (Int ⊕ (Unit ⊕ Bool)) :=
  cond (decide (t7 < (l0.length : Int)))
    ((at? l0 t7).bind fun x10 =>
    (impl_fentOk x10).bind fun t13 =>
    (cond (!t13)
      (some true)
      ((cond (decide (t7 > 0))
        ((at? l0 (w64 (t7 - 1))).bind fun x23 =>
        (at? l0 (w64 (t7 - 1))).bind fun x29 =>
        (impl_behind x10 x23.1 x29.2.1).bind fun t32 =>
        some (!t32))
        (some false)).bind fun t34 =>
      some t34)).bind fun t35 =>
    cond t35 (some (.inr (.inr false))) (some (.inl (w64 (t7 + 1)))))
    (some (.inr (.inl ())))
noncomputable def impl_FdbOk (l0 : List Fent) : Option Bool :=
  (loop (fun z => impl_FdbOk_l0 l0 z) 0).bind (Sum.elim (fun d =>
    let t2 := decide ((l0.length : Int) ≤ 12)
    some t2) (fun r => some r))
noncomputable def F_impl_FdbOk : Fn := ⟨[.val false (.one (.sl cFent)) false], [.val false (.one .bool) true], fun a => impl_FdbOk a⟩
def a_impl_FdbOk : List (Nat × LoopAnn) := [(0, ⟨⟨[(7, false, [.dat (.int .i64)]), (16, false, [.undef]), (17, false, [.undef]), (18, false, [.undef]), (19, false, [.undef]), (20, false, [.undef]), (21, false, [.undef]), (22, false, [.undef]), (23, false, [.undef]), (24, false, [.undef]), (25, false, [.undef]), (26, false, [.undef]), (27, false, [.undef]), (28, false, [.undef]), (29, false, [.undef]), (30, false, [.undef]), (31, false, [.undef]), (32, false, [.undef]), (33, false, [.undef]), (34, false, [.undef])], []⟩,
    ⟨[], []⟩, some ⟨[(2, false, [.dat .bool])], []⟩⟩)]
theorem e_impl_FdbOk : fnDen ⟨tis, fns_197⟩ a_impl_FdbOk Try.f132 (codeOf Try.f132) [.val false (.one (.sl cFent)) false] [.val false (.one .bool) true] = fun a => impl_FdbOk a := by kernel_rfl
theorem m_impl_FdbOk : Meets Try.prog 132 F_impl_FdbOk := by
  have h := meets_of (ann := a_impl_FdbOk) (ps := [.val false (.one (.sl cFent)) false]) (rs := [.val false (.one .bool) true]) g_197 mixed Try.func132 (by kernel_rfl) (by kernel_rfl : Try.f132.body = some (codeOf Try.f132))
  rw [e_impl_FdbOk] at h
  exact h
noncomputable def fns_132 : List (FuncId × Fn) := (132, F_impl_FdbOk) :: fns_197
theorem g_132 : Good Try.prog ⟨tis, fns_132⟩ := g_197.cons m_impl_FdbOk
noncomputable def impl_isCount (n0 : Int) : Option Bool :=
  (impl_in n0 0 1000000).bind fun t4 =>
  some t4
noncomputable def F_impl_isCount : Fn := ⟨[.val false (.one (.int .i64)) false], [.val false (.one .bool) true], fun a => impl_isCount a⟩
def a_impl_isCount : List (Nat × LoopAnn) := []
theorem e_impl_isCount : fnDen ⟨tis, fns_132⟩ a_impl_isCount Try.f133 (codeOf Try.f133) [.val false (.one (.int .i64)) false] [.val false (.one .bool) true] = fun a => impl_isCount a := by kernel_rfl
theorem m_impl_isCount : Meets Try.prog 133 F_impl_isCount := by
  have h := meets_of (ann := a_impl_isCount) (ps := [.val false (.one (.int .i64)) false]) (rs := [.val false (.one .bool) true]) g_132 mixed Try.func133 (by kernel_rfl) (by kernel_rfl : Try.f133.body = some (codeOf Try.f133))
  rw [e_impl_isCount] at h
  exact h
noncomputable def fns_133 : List (FuncId × Fn) := (133, F_impl_isCount) :: fns_132
theorem g_133 : Good Try.prog ⟨tis, fns_133⟩ := g_132.cons m_impl_isCount
noncomputable def impl_BridgeOk_l0 (p0 : Bridge) (t8 : Int) : Option (Int ⊕ (Unit ⊕ Bool)) :=
  cond (decide (t8 < (p0.2.2.1.length : Int)))
    ((at? p0.2.2.1 t8).bind fun x10 =>
    (impl_PtOk x10).bind fun t13 =>
    cond (!t13) (some (.inr (.inr false))) (some (.inl (w64 (t8 + 1)))))
    (some (.inr (.inl ())))
noncomputable def impl_BridgeOk (p0 : Bridge) : Option Bool :=
  (loop (fun z => impl_BridgeOk_l0 p0 z) 0).bind (Sum.elim (fun d =>
    (impl_in p0.1 1 99).bind fun t18 =>
    (cond (!t18) (some true) (some (decide ((p0.2.1.length : Int) > 10)))).bind fun t25 =>
    (cond t25
      (some true)
      ((impl_in (p0.2.2.1.length : Int) 1 6).bind fun t30 =>
      some (!t30))).bind fun t32 =>
    (cond t32
      (some true)
      ((impl_FdbOk p0.2.2.2.1).bind fun t36 =>
      some (!t36))).bind fun t38 =>
    (cond t38
      (some true)
      ((impl_VtabOk (p0.2.2.2.2.1, p0.2.2.2.2.2.1) (p0.2.2.1.length : Int)).bind fun t45 =>
      some (!t45))).bind fun t47 =>
    cond t47
      (some false)
      ((impl_isCount p0.2.2.2.2.2.2.1).bind fun t50 =>
      (cond t50
        ((impl_isCount p0.2.2.2.2.2.2.2.1).bind fun t54 =>
        some t54)
        (some false)).bind fun t55 =>
      (cond t55
        ((impl_isCount p0.2.2.2.2.2.2.2.2.1).bind fun t59 =>
        some t59)
        (some false)).bind fun t60 =>
      (cond t60
        ((impl_isCount p0.2.2.2.2.2.2.2.2.2.1).bind fun t64 =>
        some t64)
        (some false)).bind fun t65 =>
      (cond t65
        ((impl_isCount p0.2.2.2.2.2.2.2.2.2.2).bind fun t69 =>
        some t69)
        (some false)).bind fun t70 =>
      some t70)) (fun r => some r))
noncomputable def F_impl_BridgeOk : Fn := ⟨[.val true cBridge false], [.val false (.one .bool) true], fun a => impl_BridgeOk a⟩
def a_impl_BridgeOk : List (Nat × LoopAnn) := [(0, ⟨⟨[(8, false, [.dat (.int .i64)])], []⟩,
    ⟨[], []⟩, some ⟨[(2, false, [.dat .bool])], []⟩⟩)]
theorem e_impl_BridgeOk : fnDen ⟨tis, fns_133⟩ a_impl_BridgeOk Try.f59 (codeOf Try.f59) [.val true cBridge false] [.val false (.one .bool) true] = fun a => impl_BridgeOk a := by kernel_rfl
theorem m_impl_BridgeOk : Meets Try.prog 59 F_impl_BridgeOk := by
  have h := meets_of (ann := a_impl_BridgeOk) (ps := [.val true cBridge false]) (rs := [.val false (.one .bool) true]) g_133 mixed Try.func59 (by kernel_rfl) (by kernel_rfl : Try.f59.body = some (codeOf Try.f59))
  rw [e_impl_BridgeOk] at h
  exact h
noncomputable def fns_59 : List (FuncId × Fn) := (59, F_impl_BridgeOk) :: fns_133
theorem g_59 : Good Try.prog ⟨tis, fns_59⟩ := g_133.cons m_impl_BridgeOk
noncomputable def impl_isPort (b0 : Bridge) (port1 : Int) : Option Bool :=
  (impl_BridgeOk b0).bind fun t6 =>
  (cond t6
    ((impl_in port1 0 (w64 ((b0.2.2.1.length : Int) - 1))).bind fun t13 =>
    some t13)
    (some false)).bind fun t14 =>
  some t14
noncomputable def F_impl_isPort : Fn := ⟨[.val true cBridge false, .val false (.one (.int .i64)) false], [.val false (.one .bool) true], fun a => impl_isPort a.1 a.2⟩
def a_impl_isPort : List (Nat × LoopAnn) := []
theorem e_impl_isPort : fnDen ⟨tis, fns_59⟩ a_impl_isPort Try.f57 (codeOf Try.f57) [.val true cBridge false, .val false (.one (.int .i64)) false] [.val false (.one .bool) true] = fun a => impl_isPort a.1 a.2 := by kernel_rfl
theorem m_impl_isPort : Meets Try.prog 57 F_impl_isPort := by
  have h := meets_of (ann := a_impl_isPort) (ps := [.val true cBridge false, .val false (.one (.int .i64)) false]) (rs := [.val false (.one .bool) true]) g_59 mixed Try.func57 (by kernel_rfl) (by kernel_rfl : Try.f57.body = some (codeOf Try.f57))
  rw [e_impl_isPort] at h
  exact h
noncomputable def fns_57 : List (FuncId × Fn) := (57, F_impl_isPort) :: fns_59
theorem g_57 : Good Try.prog ⟨tis, fns_57⟩ := g_59.cons m_impl_isPort
noncomputable def impl_LessVec (a0 : Vec) (b1 : Vec) : Option Bool :=
  cond (a0.1 != b1.1)
    (some (decide (a0.1 < b1.1)))
    (cond (a0.2.1 != b1.2.1)
      (some (decide (a0.2.1 < b1.2.1)))
      (cond (a0.2.2.2.1 != b1.2.2.2.1)
        (let t4 := decide (a0.2.2.2.1 < b1.2.2.2.1)
        some t4)
        (let t4_1 := decide (a0.2.2.2.2 < b1.2.2.2.2)
        some t4_1)))
noncomputable def F_impl_LessVec : Fn := ⟨[.val true cVec false, .val true cVec false], [.val false (.one .bool) true], fun a => impl_LessVec a.1 a.2⟩
def a_impl_LessVec : List (Nat × LoopAnn) := []
theorem e_impl_LessVec : fnDen ⟨tis, fns_57⟩ a_impl_LessVec Try.f153 (codeOf Try.f153) [.val true cVec false, .val true cVec false] [.val false (.one .bool) true] = fun a => impl_LessVec a.1 a.2 := by kernel_rfl
theorem m_impl_LessVec : Meets Try.prog 153 F_impl_LessVec := by
  have h := meets_of (ann := a_impl_LessVec) (ps := [.val true cVec false, .val true cVec false]) (rs := [.val false (.one .bool) true]) g_57 mixed Try.func153 (by kernel_rfl) (by kernel_rfl : Try.f153.body = some (codeOf Try.f153))
  rw [e_impl_LessVec] at h
  exact h
noncomputable def fns_153 : List (FuncId × Fn) := (153, F_impl_LessVec) :: fns_57
theorem g_153 : Good Try.prog ⟨tis, fns_153⟩ := g_57.cons m_impl_LessVec
noncomputable def impl_StepVec (v0 : Vec) (cost1 : Int) : Option (Vec × Bool) :=
  (impl_VecOk v0).bind fun t8 =>
  (cond (!t8)
    (some true)
    ((impl_in cost1 1 1000).bind fun t12 =>
    some (!t12))).bind fun t14 =>
  cond t14
    (some (v0, false))
    ((impl_VecOk (v0.1, w64 (v0.2.1 + cost1), w64 (v0.2.2.1 + 1), v0.2.2.2.1, v0.2.2.2.2)).bind fun t27 =>
    cond (!t27)
      (some (v0, false))
      (some ((v0.1, w64 (v0.2.1 + cost1), w64 (v0.2.2.1 + 1), v0.2.2.2.1, v0.2.2.2.2), true)))
noncomputable def F_impl_StepVec : Fn := ⟨[.val true cVec false, .val false (.one (.int .i64)) false], [.val true cVec true, .val false (.one .bool) true], fun a => impl_StepVec a.1 a.2⟩
def a_impl_StepVec : List (Nat × LoopAnn) := []
theorem e_impl_StepVec : fnDen ⟨tis, fns_153⟩ a_impl_StepVec Try.f203 (codeOf Try.f203) [.val true cVec false, .val false (.one (.int .i64)) false] [.val true cVec true, .val false (.one .bool) true] = fun a => impl_StepVec a.1 a.2 := by kernel_rfl
theorem m_impl_StepVec : Meets Try.prog 203 F_impl_StepVec := by
  have h := meets_of (ann := a_impl_StepVec) (ps := [.val true cVec false, .val false (.one (.int .i64)) false]) (rs := [.val true cVec true, .val false (.one .bool) true]) g_153 mixed Try.func203 (by kernel_rfl) (by kernel_rfl : Try.f203.body = some (codeOf Try.f203))
  rw [e_impl_StepVec] at h
  exact h
noncomputable def fns_203 : List (FuncId × Fn) := (203, F_impl_StepVec) :: fns_153
theorem g_203 : Good Try.prog ⟨tis, fns_203⟩ := g_153.cons m_impl_StepVec
noncomputable def impl_BestVec_l0 (p0 : Int) (i1 : List Pt) (t7 : Int) (t18 : Int) (b0 : Int) (b1 : Int) (b2 : Int) (b3 : Int) (b4 : Int) (b0_1 : Int) (b1_1 : Int) (b2_1 : Int) (b3_1 : Int) (b4_1 : Int) : Option ((Int × Int × Int × Int × Int × Int × Int × Int × Int × Int × Int × Int) ⊕ (Int × Int × Int × Int × Int × Int × Int × Int × Int × Int × Int)) :=
  cond (decide (t18 < (i1.length : Int)))
    ((at? i1 t18).bind fun x21 =>
    (cond (!x21.1) (some true) (some (!x21.2.2.1))).bind fun t30 =>
    cond t30
      (some (.inl (t7, w64 (t18 + 1), b0, b1, b2, b3, b4, b0_1, b1_1, b2_1, b3_1, b4_1)))
      ((impl_StepVec x21.2.2.2 x21.2.1).bind fun t36 =>
      (cond t36.2 (some (decide (t36.1.1 < p0))) (some false)).bind fun t45 =>
      (cond t45
        ((cond (decide (t7 < 0))
          (some true)
          ((impl_LessVec t36.1 (b0_1, b1_1, b2_1, b3_1, b4_1)).bind fun t52 =>
          some t52)).bind fun t53 =>
        some t53)
        (some false)).bind fun t54 =>
      cond t54
        (some (.inl (t18, w64 (t18 + 1), t36.1.1, t36.1.2.1, t36.1.2.2.1, p0, 0, t36.1.1, t36.1.2.1, t36.1.2.2.1, t36.1.2.2.2.1, t36.1.2.2.2.2)))
        (some (.inl (t7, w64 (t18 + 1), b0, b1, b2, b3, b4, b0_1, b1_1, b2_1, b3_1, b4_1)))))
    (some (.inr (t7, b0, b1, b2, b3, b4, b0_1, b1_1, b2_1, b3_1, b4_1)))
noncomputable def impl_BestVec (p0 : Int) (i1 : List Pt) : Option (Vec × Int) :=
  (loop (fun z => impl_BestVec_l0 p0 i1 z.1 z.2.1 z.2.2.1 z.2.2.2.1 z.2.2.2.2.1 z.2.2.2.2.2.1 z.2.2.2.2.2.2.1 z.2.2.2.2.2.2.2.1 z.2.2.2.2.2.2.2.2.1 z.2.2.2.2.2.2.2.2.2.1 z.2.2.2.2.2.2.2.2.2.2.1 z.2.2.2.2.2.2.2.2.2.2.2) ((-1), 0, p0, 0, 0, p0, 0, 0, 0, 0, 0, 0)).bind fun d =>
  some ((d.2.1, d.2.2.1, d.2.2.2.1, d.2.2.2.2.1, d.2.2.2.2.2.1), d.1)
noncomputable def F_impl_BestVec : Fn := ⟨[.val false (.one (.int .i64)) false, .val false (.one (.sl cPt)) false], [.val true cVec true, .val false (.one (.int .i64)) true], fun a => impl_BestVec a.1 a.2⟩
def a_impl_BestVec : List (Nat × LoopAnn) := [(0, ⟨⟨[(7, false, [.dat (.int .i64)]), (18, false, [.dat (.int .i64)]), (27, false, [.undef]), (28, false, [.undef]), (29, false, [.undef]), (41, false, [.undef]), (42, false, [.undef]), (43, false, [.undef]), (44, false, [.undef]), (47, false, [.undef]), (48, false, [.undef]), (49, false, [.undef]), (50, false, [.undef]), (51, false, [.undef]), (52, false, [.undef]), (53, false, [.undef])], [(266240, .box [.dat (.int .i64), .dat (.int .i64), .dat (.int .i64), .dat (.int .i64), .dat (.int .i64)]), (525312, .box [.dat (.int .i64), .dat (.int .i64), .dat (.int .i64), .dat (.int .i64), .dat (.int .i64)])]⟩,
    ⟨[(7, false, [.dat (.int .i64)])], [(266240, .box [.dat (.int .i64), .dat (.int .i64), .dat (.int .i64), .dat (.int .i64), .dat (.int .i64)]), (525312, .box [.dat (.int .i64), .dat (.int .i64), .dat (.int .i64), .dat (.int .i64), .dat (.int .i64)])]⟩, none⟩)]
theorem e_impl_BestVec : fnDen ⟨tis, fns_203⟩ a_impl_BestVec Try.f152 (codeOf Try.f152) [.val false (.one (.int .i64)) false, .val false (.one (.sl cPt)) false] [.val true cVec true, .val false (.one (.int .i64)) true] = fun a => impl_BestVec a.1 a.2 := by kernel_rfl
theorem m_impl_BestVec : Meets Try.prog 152 F_impl_BestVec := by
  have h := meets_of (ann := a_impl_BestVec) (ps := [.val false (.one (.int .i64)) false, .val false (.one (.sl cPt)) false]) (rs := [.val true cVec true, .val false (.one (.int .i64)) true]) g_203 mixed Try.func152 (by kernel_rfl) (by kernel_rfl : Try.f152.body = some (codeOf Try.f152))
  rw [e_impl_BestVec] at h
  exact h
noncomputable def fns_152 : List (FuncId × Fn) := (152, F_impl_BestVec) :: fns_203
theorem g_152 : Good Try.prog ⟨tis, fns_152⟩ := g_203.cons m_impl_BestVec
noncomputable def impl_SayVec (id0 : Int) (l1 : List Pt) (port2 : Int) : Option Vec :=
  (impl_BestVec id0 l1).bind fun t12 =>
  some (t12.1.1, t12.1.2.1, t12.1.2.2.1, t12.1.2.2.2.1, port2)
noncomputable def F_impl_SayVec : Fn := ⟨[.val false (.one (.int .i64)) false, .val false (.one (.sl cPt)) false, .val false (.one (.int .i64)) false], [.val true cVec true], fun a => impl_SayVec a.1 a.2.1 a.2.2⟩
def a_impl_SayVec : List (Nat × LoopAnn) := []
theorem e_impl_SayVec : fnDen ⟨tis, fns_152⟩ a_impl_SayVec Try.f154 (codeOf Try.f154) [.val false (.one (.int .i64)) false, .val false (.one (.sl cPt)) false, .val false (.one (.int .i64)) false] [.val true cVec true] = fun a => impl_SayVec a.1 a.2.1 a.2.2 := by kernel_rfl
theorem m_impl_SayVec : Meets Try.prog 154 F_impl_SayVec := by
  have h := meets_of (ann := a_impl_SayVec) (ps := [.val false (.one (.int .i64)) false, .val false (.one (.sl cPt)) false, .val false (.one (.int .i64)) false]) (rs := [.val true cVec true]) g_152 mixed Try.func154 (by kernel_rfl) (by kernel_rfl : Try.f154.body = some (codeOf Try.f154))
  rw [e_impl_SayVec] at h
  exact h
noncomputable def fns_154 : List (FuncId × Fn) := (154, F_impl_SayVec) :: fns_152
theorem g_154 : Good Try.prog ⟨tis, fns_154⟩ := g_152.cons m_impl_SayVec
noncomputable def impl_RoleOf (id0 : Int) (l1 : List Pt) (port2 : Int) : Option Int :=
  (impl_in port2 0 (w64 ((l1.length : Int) - 1))).bind fun t13 =>
  (cond (!t13)
    (some true)
    ((at? l1 port2).bind fun x18 =>
    some (!x18.1))).bind fun t22 =>
  cond t22
    (some 4)
    ((impl_BestVec id0 l1).bind fun t26 =>
    cond (t26.2 == port2)
      (some 1)
      ((at? l1 port2).bind fun x36 =>
      (cond (!x36.2.2.1)
        (some true)
        ((impl_SayVec id0 l1 port2).bind fun t44 =>
        (at? l1 port2).bind fun x47 =>
        (impl_LessVec t44 x47.2.2.2).bind fun t50 =>
        some t50)).bind fun t51 =>
      cond t51 (some 2) (some 3)))
noncomputable def F_impl_RoleOf : Fn := ⟨[.val false (.one (.int .i64)) false, .val false (.one (.sl cPt)) false, .val false (.one (.int .i64)) false], [.val false (.one (.int .i64)) true], fun a => impl_RoleOf a.1 a.2.1 a.2.2⟩
def a_impl_RoleOf : List (Nat × LoopAnn) := []
theorem e_impl_RoleOf : fnDen ⟨tis, fns_154⟩ a_impl_RoleOf Try.f79 (codeOf Try.f79) [.val false (.one (.int .i64)) false, .val false (.one (.sl cPt)) false, .val false (.one (.int .i64)) false] [.val false (.one (.int .i64)) true] = fun a => impl_RoleOf a.1 a.2.1 a.2.2 := by kernel_rfl
theorem m_impl_RoleOf : Meets Try.prog 79 F_impl_RoleOf := by
  have h := meets_of (ann := a_impl_RoleOf) (ps := [.val false (.one (.int .i64)) false, .val false (.one (.sl cPt)) false, .val false (.one (.int .i64)) false]) (rs := [.val false (.one (.int .i64)) true]) g_154 mixed Try.func79 (by kernel_rfl) (by kernel_rfl : Try.f79.body = some (codeOf Try.f79))
  rw [e_impl_RoleOf] at h
  exact h
noncomputable def fns_79 : List (FuncId × Fn) := (79, F_impl_RoleOf) :: fns_154
theorem g_79 : Good Try.prog ⟨tis, fns_79⟩ := g_154.cons m_impl_RoleOf
noncomputable def impl_Sends_l0 (id0 : Int) (l1 : List Pt) (bits5 : Int) (port6 : Int) : Option ((Int × Int) ⊕ Int) :=
  (cond (decide (port6 < (l1.length : Int))) (some (decide (port6 < 6))) (some false)).bind fun t15 =>
  cond t15
    ((impl_RoleOf id0 l1 port6).bind fun t21 =>
    (cond (t21 == 1) (some true) (some (t21 == 2))).bind fun t27 =>
    cond t27
      ((shl .i64 1 port6).bind fun t30 =>
      some (.inl (bor .i64 bits5 t30, w64 (port6 + 1))))
      (some (.inl (bits5, w64 (port6 + 1)))))
    (some (.inr bits5))
noncomputable def impl_Sends (id0 : Int) (l1 : List Pt) : Option Int :=
  (loop (fun z => impl_Sends_l0 id0 l1 z.1 z.2) (0, 0)).bind fun d =>
  some d
noncomputable def F_impl_Sends : Fn := ⟨[.val false (.one (.int .i64)) false, .val false (.one (.sl cPt)) false], [.val false (.one (.int .i64)) true], fun a => impl_Sends a.1 a.2⟩
def a_impl_Sends : List (Nat × LoopAnn) := [(0, ⟨⟨[(5, false, [.dat (.int .i64)]), (6, false, [.dat (.int .i64)]), (13, false, [.undef]), (14, false, [.undef]), (25, false, [.undef]), (26, false, [.undef])], []⟩,
    ⟨[(5, false, [.dat (.int .i64)])], []⟩, none⟩)]
theorem e_impl_Sends : fnDen ⟨tis, fns_79⟩ a_impl_Sends Try.f63 (codeOf Try.f63) [.val false (.one (.int .i64)) false, .val false (.one (.sl cPt)) false] [.val false (.one (.int .i64)) true] = fun a => impl_Sends a.1 a.2 := by kernel_rfl
theorem m_impl_Sends : Meets Try.prog 63 F_impl_Sends := by
  have h := meets_of (ann := a_impl_Sends) (ps := [.val false (.one (.int .i64)) false, .val false (.one (.sl cPt)) false]) (rs := [.val false (.one (.int .i64)) true]) g_79 mixed Try.func63 (by kernel_rfl) (by kernel_rfl : Try.f63.body = some (codeOf Try.f63))
  rw [e_impl_Sends] at h
  exact h
noncomputable def fns_63 : List (FuncId × Fn) := (63, F_impl_Sends) :: fns_79
theorem g_63 : Good Try.prog ⟨tis, fns_63⟩ := g_79.cons m_impl_Sends
noncomputable def impl_hasPort (bits0 : Int) (port1 : Int) : Option Bool :=
  (impl_in port1 0 62).bind fun t6 =>
  (cond t6
    ((shr .i64 bits0 port1).bind fun t10 =>
    some ((band .i64 t10 1) == 1))
    (some false)).bind fun t13 =>
  some t13
noncomputable def F_impl_hasPort : Fn := ⟨[.val false (.one (.int .i64)) false, .val false (.one (.int .i64)) false], [.val false (.one .bool) true], fun a => impl_hasPort a.1 a.2⟩
def a_impl_hasPort : List (Nat × LoopAnn) := []
theorem e_impl_hasPort : fnDen ⟨tis, fns_63⟩ a_impl_hasPort Try.f65 (codeOf Try.f65) [.val false (.one (.int .i64)) false, .val false (.one (.int .i64)) false] [.val false (.one .bool) true] = fun a => impl_hasPort a.1 a.2 := by kernel_rfl
theorem m_impl_hasPort : Meets Try.prog 65 F_impl_hasPort := by
  have h := meets_of (ann := a_impl_hasPort) (ps := [.val false (.one (.int .i64)) false, .val false (.one (.int .i64)) false]) (rs := [.val false (.one .bool) true]) g_63 mixed Try.func65 (by kernel_rfl) (by kernel_rfl : Try.f65.body = some (codeOf Try.f65))
  rw [e_impl_hasPort] at h
  exact h
noncomputable def fns_65 : List (FuncId × Fn) := (65, F_impl_hasPort) :: fns_63
theorem g_65 : Good Try.prog ⟨tis, fns_65⟩ := g_63.cons m_impl_hasPort
noncomputable def impl_more (n0 : Int) : Option Int :=
  let t2 := min2 (w64 (n0 + 1)) 1000000
  some t2
noncomputable def F_impl_more : Fn := ⟨[.val false (.one (.int .i64)) false], [.val false (.one (.int .i64)) true], fun a => impl_more a⟩
def a_impl_more : List (Nat × LoopAnn) := []
theorem e_impl_more : fnDen ⟨tis, fns_65⟩ a_impl_more Try.f66 (codeOf Try.f66) [.val false (.one (.int .i64)) false] [.val false (.one (.int .i64)) true] = fun a => impl_more a := by kernel_rfl
theorem m_impl_more : Meets Try.prog 66 F_impl_more := by
  have h := meets_of (ann := a_impl_more) (ps := [.val false (.one (.int .i64)) false]) (rs := [.val false (.one (.int .i64)) true]) g_65 mixed Try.func66 (by kernel_rfl) (by kernel_rfl : Try.f66.body = some (codeOf Try.f66))
  rw [e_impl_more] at h
  exact h
noncomputable def fns_66 : List (FuncId × Fn) := (66, F_impl_more) :: fns_65
theorem g_66 : Good Try.prog ⟨tis, fns_66⟩ := g_65.cons m_impl_more
noncomputable def impl_FlushPort_l0 (l0 : List Fent) (port1 : Int) (t10 : Int) (out5 : List Fent) : Option ((Int × List Fent) ⊕ (List Fent)) :=
  cond (decide (t10 < (l0.length : Int)))
    ((at? l0 t10).bind fun x12 =>
    (cond x12.2.2.2.2 (some true) (some (x12.2.2.1 != port1))).bind fun t21 =>
    cond t21
      ((app out5 [x12]).bind fun zs25 =>
      some (.inl (w64 (t10 + 1), zs25)))
      (some (.inl (w64 (t10 + 1), out5))))
    (some (.inr out5))
noncomputable def impl_FlushPort (l0 : List Fent) (port1 : Int) : Option (List Fent) :=
  (loop (fun z => impl_FlushPort_l0 l0 port1 z.1 z.2) (0, [])).bind fun d =>
  some d
noncomputable def F_impl_FlushPort : Fn := ⟨[.val false (.one (.sl cFent)) false, .val false (.one (.int .i64)) false], [.val false (.one (.sl cFent)) true], fun a => impl_FlushPort a.1 a.2⟩
def a_impl_FlushPort : List (Nat × LoopAnn) := [(0, ⟨⟨[(5, false, [.own 1000000000]), (10, false, [.dat (.int .i64)]), (17, false, [.undef]), (18, false, [.undef]), (19, false, [.undef]), (20, false, [.undef])], [(1000000000, .root cFent true)]⟩,
    ⟨[(5, false, [.own 1000000300])], [(1000000300, .root cFent true)]⟩, none⟩)]
theorem e_impl_FlushPort : fnDen ⟨tis, fns_66⟩ a_impl_FlushPort Try.f130 (codeOf Try.f130) [.val false (.one (.sl cFent)) false, .val false (.one (.int .i64)) false] [.val false (.one (.sl cFent)) true] = fun a => impl_FlushPort a.1 a.2 := by kernel_rfl
theorem m_impl_FlushPort : Meets Try.prog 130 F_impl_FlushPort := by
  have h := meets_of (ann := a_impl_FlushPort) (ps := [.val false (.one (.sl cFent)) false, .val false (.one (.int .i64)) false]) (rs := [.val false (.one (.sl cFent)) true]) g_66 mixed Try.func130 (by kernel_rfl) (by kernel_rfl : Try.f130.body = some (codeOf Try.f130))
  rw [e_impl_FlushPort] at h
  exact h
noncomputable def fns_130 : List (FuncId × Fn) := (130, F_impl_FlushPort) :: fns_66
theorem g_130 : Good Try.prog ⟨tis, fns_130⟩ := g_66.cons m_impl_FlushPort
noncomputable def impl_Bridge_turn_l0 (b0 : Bridge) (t20 : Int) (t26 : Int) (b0_1 : Int) (b1 : List UInt8) (b6 : Int) (b7 : Int) (b8 : Int) (b9 : Int) (b10 : Int) (b3 : List Fent) : Option ((Int × Int × List UInt8 × Int × Int × Int × Int × Int × List Fent) ⊕ (Int × List UInt8 × Int × Int × Int × Int × Int × List Fent)) :=
  cond (decide (t26 < (b0.2.2.1.length : Int)))
    ((impl_hasPort t20 t26).bind fun t31 =>
    cond (!t31)
      ((impl_FlushPort b3 t26).bind fun t39 =>
      some (.inl (w64 (t26 + 1), b0_1, b1, b6, b7, b8, b9, b10, t39)))
      (some (.inl (w64 (t26 + 1), b0_1, b1, b6, b7, b8, b9, b10, b3))))
    (some (.inr (b0_1, b1, b6, b7, b8, b9, b10, b3)))
noncomputable def impl_Bridge_turn (b0 : Bridge) : Option Bridge :=
  (impl_more b0.2.2.2.2.2.2.2.2.2.2).bind fun t9 =>
  (impl_Sends b0.1 b0.2.2.1).bind fun t20 =>
  (loop (fun z => impl_Bridge_turn_l0 b0 t20 z.1 z.2.1 z.2.2.1 z.2.2.2.1 z.2.2.2.2.1 z.2.2.2.2.2.1 z.2.2.2.2.2.2.1 z.2.2.2.2.2.2.2.1 z.2.2.2.2.2.2.2.2) (0, b0.1, b0.2.1, b0.2.2.2.2.2.2.1, b0.2.2.2.2.2.2.2.1, b0.2.2.2.2.2.2.2.2.1, b0.2.2.2.2.2.2.2.2.2.1, t9, b0.2.2.2.1)).bind fun d =>
  some (d.1, d.2.1, b0.2.2.1, d.2.2.2.2.2.2.2, b0.2.2.2.2.1, b0.2.2.2.2.2.1, d.2.2.1, d.2.2.2.1, d.2.2.2.2.1, d.2.2.2.2.2.1, d.2.2.2.2.2.2.1)
noncomputable def F_impl_Bridge_turn : Fn := ⟨[.ptr cBridge true], [], fun a => impl_Bridge_turn a⟩
def a_impl_Bridge_turn : List (Nat × LoopAnn) := [(0, ⟨⟨[(26, false, [.dat (.int .i64)])], [(1, .box [.dat (.int .i64), .dat .str, .same 4, .own 1000000000, .same 6, .same 7, .dat (.int .i64), .dat (.int .i64), .dat (.int .i64), .dat (.int .i64), .dat (.int .i64)]), (1000000000, .root cFent true)]⟩,
    ⟨[], [(1, .box [.dat (.int .i64), .dat .str, .same 4, .own 1000000300, .same 6, .same 7, .dat (.int .i64), .dat (.int .i64), .dat (.int .i64), .dat (.int .i64), .dat (.int .i64)]), (1000000300, .root cFent true)]⟩, none⟩)]
theorem e_impl_Bridge_turn : fnDen ⟨tis, fns_130⟩ a_impl_Bridge_turn Try.f58 (codeOf Try.f58) [.ptr cBridge true] [] = fun a => impl_Bridge_turn a := by kernel_rfl
theorem m_impl_Bridge_turn : Meets Try.prog 58 F_impl_Bridge_turn := by
  have h := meets_of (ann := a_impl_Bridge_turn) (ps := [.ptr cBridge true]) (rs := []) g_130 mixed Try.func58 (by kernel_rfl) (by kernel_rfl : Try.f58.body = some (codeOf Try.f58))
  rw [e_impl_Bridge_turn] at h
  exact h
noncomputable def fns_58 : List (FuncId × Fn) := (58, F_impl_Bridge_turn) :: fns_130
theorem g_58 : Good Try.prog ⟨tis, fns_58⟩ := g_130.cons m_impl_Bridge_turn
noncomputable def impl_LinkSet (b0 : Bridge) (port1 : Int) (up2 : Bool) : Option Bridge :=
  (impl_copyBridge b0).bind fun t9 =>
  (impl_isPort b0 port1).bind fun t12 =>
  cond t12
    ((at? b0.2.2.1 port1).bind fun x20 =>
    (ix t9.2.2.1.length port1).bind fun j24 =>
    (t9.2.2.1[j24]?).bind fun x =>
    (impl_Bridge_turn (t9.1, t9.2.1, t9.2.2.1.set j24 (up2, x20.2.1, false, 0, 0, 0, 0, 0), t9.2.2.2.1, t9.2.2.2.2.1, t9.2.2.2.2.2.1, t9.2.2.2.2.2.2.1, t9.2.2.2.2.2.2.2.1, t9.2.2.2.2.2.2.2.2.1, t9.2.2.2.2.2.2.2.2.2.1, t9.2.2.2.2.2.2.2.2.2.2)).bind fun t25 =>
    some t25)
    (some t9)
noncomputable def F_impl_LinkSet : Fn := ⟨[.val true cBridge false, .val false (.one (.int .i64)) false, .val false (.one .bool) false], [.val true cBridge true], fun a => impl_LinkSet a.1 a.2.1 a.2.2⟩
def a_impl_LinkSet : List (Nat × LoopAnn) := []
theorem e_impl_LinkSet : fnDen ⟨tis, fns_58⟩ a_impl_LinkSet Try.f13 (codeOf Try.f13) [.val true cBridge false, .val false (.one (.int .i64)) false, .val false (.one .bool) false] [.val true cBridge true] = fun a => impl_LinkSet a.1 a.2.1 a.2.2 := by kernel_rfl
theorem m_impl_LinkSet : Meets Try.prog 13 F_impl_LinkSet := by
  have h := meets_of (ann := a_impl_LinkSet) (ps := [.val true cBridge false, .val false (.one (.int .i64)) false, .val false (.one .bool) false]) (rs := [.val true cBridge true]) g_58 mixed Try.func13 (by kernel_rfl) (by kernel_rfl : Try.f13.body = some (codeOf Try.f13))
  rw [e_impl_LinkSet] at h
  exact h
noncomputable def fns_13 : List (FuncId × Fn) := (13, F_impl_LinkSet) :: fns_58
theorem g_13 : Good Try.prog ⟨tis, fns_13⟩ := g_58.cons m_impl_LinkSet
noncomputable def impl_SameOid_l0 (a0 : List Int) (b1 : List Int) (t13 : Int) : Option (Int ⊕ (Unit ⊕ Bool)) :=
  cond (decide (t13 < (a0.length : Int)))
    ((at? a0 t13).bind fun x18 =>
    (at? b1 t13).bind fun x22 =>
    cond (x18 != x22) (some (.inr (.inr false))) (some (.inl (w64 (t13 + 1)))))
    (some (.inr (.inl ())))
noncomputable def impl_SameOid (a0 : List Int) (b1 : List Int) : Option Bool :=
  cond ((a0.length : Int) != (b1.length : Int))
    (some false)
    ((loop (fun z => impl_SameOid_l0 a0 b1 z) 0).bind (Sum.elim (fun d =>
      some true) (fun r => some r)))
noncomputable def F_impl_SameOid : Fn := ⟨[.val false (.one (.sl (.one (.int .i64)))) false, .val false (.one (.sl (.one (.int .i64)))) false], [.val false (.one .bool) true], fun a => impl_SameOid a.1 a.2⟩
def a_impl_SameOid : List (Nat × LoopAnn) := [(0, ⟨⟨[(13, false, [.dat (.int .i64)])], []⟩,
    ⟨[], []⟩, some ⟨[(4, false, [.dat .bool])], []⟩⟩)]
theorem e_impl_SameOid : fnDen ⟨tis, fns_13⟩ a_impl_SameOid Try.f52 (codeOf Try.f52) [.val false (.one (.sl (.one (.int .i64)))) false, .val false (.one (.sl (.one (.int .i64)))) false] [.val false (.one .bool) true] = fun a => impl_SameOid a.1 a.2 := by kernel_rfl
theorem m_impl_SameOid : Meets Try.prog 52 F_impl_SameOid := by
  have h := meets_of (ann := a_impl_SameOid) (ps := [.val false (.one (.sl (.one (.int .i64)))) false, .val false (.one (.sl (.one (.int .i64)))) false]) (rs := [.val false (.one .bool) true]) g_13 mixed Try.func52 (by kernel_rfl) (by kernel_rfl : Try.f52.body = some (codeOf Try.f52))
  rw [e_impl_SameOid] at h
  exact h
noncomputable def fns_52 : List (FuncId × Fn) := (52, F_impl_SameOid) :: fns_13
theorem g_52 : Good Try.prog ⟨tis, fns_52⟩ := g_13.cons m_impl_SameOid
noncomputable def impl_numbered (o0 : List Int) (low1 : Int) (high2 : Int) (head3 : List Int) : Option Bool :=
  cond ((o0.length : Int) == (w64 ((head3.length : Int) + 4)))
    ((cut o0 0 (w64 ((o0.length : Int) - 1))).bind fun t20 =>
    (app ([1, 3, 1] : List Int) head3).bind fun zs23 =>
    (impl_SameOid t20 zs23).bind fun t24 =>
    (cond t24
      ((at? o0 (w64 ((o0.length : Int) - 1))).bind fun x31 =>
      (impl_in x31 low1 high2).bind fun t35 =>
      some t35)
      (some false)).bind fun t36 =>
    some t36)
    ((some false).bind fun t36_1 =>
    some t36_1)
noncomputable def F_impl_numbered : Fn := ⟨[.val false (.one (.sl (.one (.int .i64)))) false, .val false (.one (.int .i64)) false, .val false (.one (.int .i64)) false, .val false (.one (.sl (.one (.int .i64)))) false], [.val false (.one .bool) true], fun a => impl_numbered a.1 a.2.1 a.2.2.1 a.2.2.2⟩
def a_impl_numbered : List (Nat × LoopAnn) := []
theorem e_impl_numbered : fnDen ⟨tis, fns_52⟩ a_impl_numbered Try.f198 (codeOf Try.f198) [.val false (.one (.sl (.one (.int .i64)))) false, .val false (.one (.int .i64)) false, .val false (.one (.int .i64)) false, .val false (.one (.sl (.one (.int .i64)))) false] [.val false (.one .bool) true] = fun a => impl_numbered a.1 a.2.1 a.2.2.1 a.2.2.2 := by kernel_rfl
theorem m_impl_numbered : Meets Try.prog 198 F_impl_numbered := by
  have h := meets_of (ann := a_impl_numbered) (ps := [.val false (.one (.sl (.one (.int .i64)))) false, .val false (.one (.int .i64)) false, .val false (.one (.int .i64)) false, .val false (.one (.sl (.one (.int .i64)))) false]) (rs := [.val false (.one .bool) true]) g_52 mixed Try.func198 (by kernel_rfl) (by kernel_rfl : Try.f198.body = some (codeOf Try.f198))
  rw [e_impl_numbered] at h
  exact h
noncomputable def fns_198 : List (FuncId × Fn) := (198, F_impl_numbered) :: fns_52
theorem g_198 : Good Try.prog ⟨tis, fns_198⟩ := g_52.cons m_impl_numbered
noncomputable def impl_canSet (b0 : Bridge) (o1 : List Int) : Option Bool :=
  (impl_numbered o1 1 1 ([1] : List Int)).bind fun t11 =>
  (cond t11
    (some true)
    ((impl_numbered o1 1 (b0.2.2.1.length : Int) ([2, 2] : List Int)).bind fun t16 =>
    some t16)).bind fun t17 =>
  (cond t17
    (some true)
    ((impl_numbered o1 1 (b0.2.2.1.length : Int) ([2, 4] : List Int)).bind fun t22 =>
    some t22)).bind fun t23 =>
  (cond t23
    (some true)
    ((impl_numbered o1 1 99 ([3, 1] : List Int)).bind fun t27 =>
    some t27)).bind fun t28 =>
  cond t28
    (some true)
    ((impl_numbered o1 1 99 ([3, 2] : List Int)).bind fun t31 =>
    (cond t31
      (some true)
      ((impl_numbered o1 1 99 ([3, 3] : List Int)).bind fun t35 =>
      some t35)).bind fun t36 =>
    (cond t36
      ((at? o1 5).bind fun x41 =>
      (impl_RowAt (b0.2.2.2.2.1, b0.2.2.2.2.2.1) x41).bind fun t43 =>
      some (decide (t43 ≥ 0)))
      (some false)).bind fun t45 =>
    some t45)
noncomputable def F_impl_canSet : Fn := ⟨[.val true cBridge false, .val false (.one (.sl (.one (.int .i64)))) false], [.val false (.one .bool) true], fun a => impl_canSet a.1 a.2⟩
def a_impl_canSet : List (Nat × LoopAnn) := []
theorem e_impl_canSet : fnDen ⟨tis, fns_198⟩ a_impl_canSet Try.f134 (codeOf Try.f134) [.val true cBridge false, .val false (.one (.sl (.one (.int .i64)))) false] [.val false (.one .bool) true] = fun a => impl_canSet a.1 a.2 := by kernel_rfl
theorem m_impl_canSet : Meets Try.prog 134 F_impl_canSet := by
  have h := meets_of (ann := a_impl_canSet) (ps := [.val true cBridge false, .val false (.one (.sl (.one (.int .i64)))) false]) (rs := [.val false (.one .bool) true]) g_198 mixed Try.func134 (by kernel_rfl) (by kernel_rfl : Try.f134.body = some (codeOf Try.f134))
  rw [e_impl_canSet] at h
  exact h
noncomputable def fns_134 : List (FuncId × Fn) := (134, F_impl_canSet) :: fns_198
theorem g_134 : Good Try.prog ⟨tis, fns_134⟩ := g_198.cons m_impl_canSet
noncomputable def impl_withRow_l0 (v0 : Vtab) (r1 : Vrow) (k7 : Int) : Option (Int ⊕ Int) :=
  (cond (decide (k7 < (v0.1.length : Int)))
    ((at? v0.1 k7).bind fun x31 =>
    some (decide (x31.1 ≤ r1.1)))
    (some false)).bind fun t37 =>
  cond t37 (some (.inl (w64 (k7 + 1)))) (some (.inr k7))
noncomputable def impl_withRow (v0 : Vtab) (r1 : Vrow) : Option Vtab :=
  (impl_copyVtab v0).bind fun t9 =>
  (impl_RowAt v0 r1.1).bind fun t13 =>
  cond (decide (t13 ≥ 0))
    ((ix t9.1.length t13).bind fun j20 =>
    (t9.1[j20]?).bind fun x =>
    some (t9.1.set j20 r1, t9.2))
    ((loop (fun z => impl_withRow_l0 v0 r1 z) 0).bind fun d =>
    (cut v0.1 0 d).bind fun t43 =>
    (app [] t43).bind fun zs44 =>
    (app zs44 [r1]).bind fun zs47 =>
    (cut v0.1 d (v0.1.length : Int)).bind fun t51 =>
    (app zs47 t51).bind fun zs52 =>
    some (zs52, t9.2))
noncomputable def F_impl_withRow : Fn := ⟨[.val true cVtab false, .val true cVrow false], [.val true cVtab true], fun a => impl_withRow a.1 a.2⟩
def a_impl_withRow : List (Nat × LoopAnn) := [(0, ⟨⟨[(7, false, [.dat (.int .i64)]), (28, false, [.undef]), (29, false, [.undef]), (30, false, [.undef]), (31, false, [.undef]), (32, false, [.undef]), (33, false, [.undef]), (34, false, [.undef]), (35, false, [.undef]), (36, false, [.undef])], []⟩,
    ⟨[(7, false, [.dat (.int .i64)])], []⟩, none⟩)]
theorem e_impl_withRow : fnDen ⟨tis, fns_134⟩ a_impl_withRow Try.f231 (codeOf Try.f231) [.val true cVtab false, .val true cVrow false] [.val true cVtab true] = fun a => impl_withRow a.1 a.2 := by kernel_rfl
theorem m_impl_withRow : Meets Try.prog 231 F_impl_withRow := by
  have h := meets_of (ann := a_impl_withRow) (ps := [.val true cVtab false, .val true cVrow false]) (rs := [.val true cVtab true]) g_134 mixed Try.func231 (by kernel_rfl) (by kernel_rfl : Try.f231.body = some (codeOf Try.f231))
  rw [e_impl_withRow] at h
  exact h
noncomputable def fns_231 : List (FuncId × Fn) := (231, F_impl_withRow) :: fns_134
theorem g_231 : Good Try.prog ⟨tis, fns_231⟩ := g_134.cons m_impl_withRow
noncomputable def impl_withoutRow (v0 : Vtab) (id1 : Int) : Option Vtab :=
  (impl_copyVtab v0).bind fun t8 =>
  (impl_RowAt v0 id1).bind fun t11 =>
  cond (decide (t11 ≥ 0))
    ((cut v0.1 0 t11).bind fun t17 =>
    (app [] t17).bind fun zs18 =>
    (cut v0.1 (w64 (t11 + 1)) (v0.1.length : Int)).bind fun t23 =>
    (app zs18 t23).bind fun zs24 =>
    some (zs24, t8.2))
    (some t8)
noncomputable def F_impl_withoutRow : Fn := ⟨[.val true cVtab false, .val false (.one (.int .i64)) false], [.val true cVtab true], fun a => impl_withoutRow a.1 a.2⟩
def a_impl_withoutRow : List (Nat × LoopAnn) := []
theorem e_impl_withoutRow : fnDen ⟨tis, fns_231⟩ a_impl_withoutRow Try.f232 (codeOf Try.f232) [.val true cVtab false, .val false (.one (.int .i64)) false] [.val true cVtab true] = fun a => impl_withoutRow a.1 a.2 := by kernel_rfl
theorem m_impl_withoutRow : Meets Try.prog 232 F_impl_withoutRow := by
  have h := meets_of (ann := a_impl_withoutRow) (ps := [.val true cVtab false, .val false (.one (.int .i64)) false]) (rs := [.val true cVtab true]) g_231 mixed Try.func232 (by kernel_rfl) (by kernel_rfl : Try.f232.body = some (codeOf Try.f232))
  rw [e_impl_withoutRow] at h
  exact h
noncomputable def fns_232 : List (FuncId × Fn) := (232, F_impl_withoutRow) :: fns_231
theorem g_232 : Good Try.prog ⟨tis, fns_232⟩ := g_231.cons m_impl_withoutRow
noncomputable def impl_Bridge_setRow (p0 : Bridge) (i1 : Int) (a2 : Int) (a3 : Int) : Option (Bridge × Int) :=
  (impl_RowAt (p0.2.2.2.2.1, p0.2.2.2.2.2.1) a2).bind fun t15 =>
  cond (i1 == 1)
    ((cond (a3 == 4) (some (decide (t15 < 0))) (some false)).bind fun t24 =>
    (cond t24 (some (decide ((p0.2.2.2.2.1.length : Int) < 6))) (some false)).bind fun t33 =>
    cond t33
      ((impl_withRow (p0.2.2.2.2.1, p0.2.2.2.2.2.1) (a2, 0, 0)).bind fun t41 =>
      some ((p0.1, p0.2.1, p0.2.2.1, p0.2.2.2.1, t41.1, t41.2, p0.2.2.2.2.2.2.1, p0.2.2.2.2.2.2.2.1, p0.2.2.2.2.2.2.2.2.1, p0.2.2.2.2.2.2.2.2.2.1, p0.2.2.2.2.2.2.2.2.2.2), 0))
      ((cond (a3 == 6) (some (decide (t15 ≥ 0))) (some false)).bind fun t50 =>
      cond t50
        ((impl_withoutRow (p0.2.2.2.2.1, p0.2.2.2.2.2.1) a2).bind fun t57 =>
        some ((p0.1, p0.2.1, p0.2.2.1, p0.2.2.2.1, t57.1, t57.2, p0.2.2.2.2.2.2.1, p0.2.2.2.2.2.2.2.1, p0.2.2.2.2.2.2.2.2.1, p0.2.2.2.2.2.2.2.2.2.1, p0.2.2.2.2.2.2.2.2.2.2), 0))
        (some (p0, 2))))
    ((impl_allPorts (p0.2.2.1.length : Int)).bind fun t66 =>
    (impl_in a3 0 t66).bind fun t67 =>
    cond (!t67)
      (some (p0, 2))
      (cond (i1 == 2)
        ((ix p0.2.2.2.2.1.length t15).bind fun j78 =>
        (p0.2.2.2.2.1[j78]?).bind fun x =>
        some ((p0.1, p0.2.1, p0.2.2.1, p0.2.2.2.1, p0.2.2.2.2.1.set j78 (x.1, a3, x.2.2), p0.2.2.2.2.2.1, p0.2.2.2.2.2.2.1, p0.2.2.2.2.2.2.2.1, p0.2.2.2.2.2.2.2.2.1, p0.2.2.2.2.2.2.2.2.2.1, p0.2.2.2.2.2.2.2.2.2.2), 0))
        ((ix p0.2.2.2.2.1.length t15).bind fun j87 =>
        (p0.2.2.2.2.1[j87]?).bind fun x_1 =>
        some ((p0.1, p0.2.1, p0.2.2.1, p0.2.2.2.1, p0.2.2.2.2.1.set j87 (x_1.1, x_1.2.1, a3), p0.2.2.2.2.2.1, p0.2.2.2.2.2.2.1, p0.2.2.2.2.2.2.2.1, p0.2.2.2.2.2.2.2.2.1, p0.2.2.2.2.2.2.2.2.2.1, p0.2.2.2.2.2.2.2.2.2.2), 0))))
noncomputable def F_impl_Bridge_setRow : Fn := ⟨[.ptr cBridge true, .val false (.one (.int .i64)) false, .val false (.one (.int .i64)) false, .val false (.one (.int .i64)) false], [.val false (.one (.int .i64)) true], fun a => impl_Bridge_setRow a.1 a.2.1 a.2.2.1 a.2.2.2⟩
def a_impl_Bridge_setRow : List (Nat × LoopAnn) := []
theorem e_impl_Bridge_setRow : fnDen ⟨tis, fns_232⟩ a_impl_Bridge_setRow Try.f199 (codeOf Try.f199) [.ptr cBridge true, .val false (.one (.int .i64)) false, .val false (.one (.int .i64)) false, .val false (.one (.int .i64)) false] [.val false (.one (.int .i64)) true] = fun a => impl_Bridge_setRow a.1 a.2.1 a.2.2.1 a.2.2.2 := by kernel_rfl
theorem m_impl_Bridge_setRow : Meets Try.prog 199 F_impl_Bridge_setRow := by
  have h := meets_of (ann := a_impl_Bridge_setRow) (ps := [.ptr cBridge true, .val false (.one (.int .i64)) false, .val false (.one (.int .i64)) false, .val false (.one (.int .i64)) false]) (rs := [.val false (.one (.int .i64)) true]) g_232 mixed Try.func199 (by kernel_rfl) (by kernel_rfl : Try.f199.body = some (codeOf Try.f199))
  rw [e_impl_Bridge_setRow] at h
  exact h
noncomputable def fns_199 : List (FuncId × Fn) := (199, F_impl_Bridge_setRow) :: fns_232
theorem g_199 : Good Try.prog ⟨tis, fns_199⟩ := g_232.cons m_impl_Bridge_setRow
noncomputable def impl_Bridge_setThing (p0 : Bridge) (i1 : List Int) (a2 : Val) : Option (Bridge × Int) :=
  (at? i1 3).bind fun x9 =>
  (cond (x9 == 1) (some (a2.1 != 4)) (some false)).bind fun t17 =>
  (cond t17
    (some true)
    ((cond (!(x9 == 1)) (some (a2.1 != 2)) (some false)).bind fun t25 =>
    some t25)).bind fun t26 =>
  cond t26
    (some (p0, 1))
    (cond (x9 == 1)
      (cond (decide ((a2.2.2.1.length : Int) > 10))
        (some (p0, 2))
        (some ((p0.1, a2.2.2.1, p0.2.2.1, p0.2.2.2.1, p0.2.2.2.2.1, p0.2.2.2.2.2.1, p0.2.2.2.2.2.2.1, p0.2.2.2.2.2.2.2.1, p0.2.2.2.2.2.2.2.2.1, p0.2.2.2.2.2.2.2.2.2.1, p0.2.2.2.2.2.2.2.2.2.2), 0)))
      ((at? i1 3).bind fun x52 =>
      cond (x52 == 3)
        ((at? i1 4).bind fun x57 =>
        (at? i1 5).bind fun x60 =>
        (impl_Bridge_setRow p0 x57 x60 a2.2.1).bind fun t64 =>
        some t64)
        ((at? i1 4).bind fun x67 =>
        cond (x67 == 2)
          ((impl_in a2.2.1 1 1000).bind fun t72 =>
          cond (!t72)
            (some (p0, 2))
            ((at? i1 5).bind fun x79 =>
            (ix p0.2.2.1.length (w64 (x79 - 1))).bind fun j84 =>
            (p0.2.2.1[j84]?).bind fun x =>
            some ((p0.1, p0.2.1, p0.2.2.1.set j84 (x.1, a2.2.1, x.2.2.1, x.2.2.2.1, x.2.2.2.2.1, x.2.2.2.2.2.1, x.2.2.2.2.2.2.1, x.2.2.2.2.2.2.2), p0.2.2.2.1, p0.2.2.2.2.1, p0.2.2.2.2.2.1, p0.2.2.2.2.2.2.1, p0.2.2.2.2.2.2.2.1, p0.2.2.2.2.2.2.2.2.1, p0.2.2.2.2.2.2.2.2.2.1, p0.2.2.2.2.2.2.2.2.2.2), 0)))
          ((at? i1 5).bind fun x33 =>
          (ix p0.2.2.2.2.2.1.length (w64 (x33 - 1))).bind fun j38 =>
          (p0.2.2.2.2.2.1[j38]?).bind fun x_1 =>
          some ((p0.1, p0.2.1, p0.2.2.1, p0.2.2.2.1, p0.2.2.2.2.1, p0.2.2.2.2.2.1.set j38 a2.2.1, p0.2.2.2.2.2.2.1, p0.2.2.2.2.2.2.2.1, p0.2.2.2.2.2.2.2.2.1, p0.2.2.2.2.2.2.2.2.2.1, p0.2.2.2.2.2.2.2.2.2.2), 0)))))
noncomputable def F_impl_Bridge_setThing : Fn := ⟨[.ptr cBridge true, .val false (.one (.sl (.one (.int .i64)))) false, .val true cVal false], [.val false (.one (.int .i64)) true], fun a => impl_Bridge_setThing a.1 a.2.1 a.2.2⟩
def a_impl_Bridge_setThing : List (Nat × LoopAnn) := []
theorem e_impl_Bridge_setThing : fnDen ⟨tis, fns_199⟩ a_impl_Bridge_setThing Try.f135 (codeOf Try.f135) [.ptr cBridge true, .val false (.one (.sl (.one (.int .i64)))) false, .val true cVal false] [.val false (.one (.int .i64)) true] = fun a => impl_Bridge_setThing a.1 a.2.1 a.2.2 := by kernel_rfl
theorem m_impl_Bridge_setThing : Meets Try.prog 135 F_impl_Bridge_setThing := by
  have h := meets_of (ann := a_impl_Bridge_setThing) (ps := [.ptr cBridge true, .val false (.one (.sl (.one (.int .i64)))) false, .val true cVal false]) (rs := [.val false (.one (.int .i64)) true]) g_199 mixed Try.func135 (by kernel_rfl) (by kernel_rfl : Try.f135.body = some (codeOf Try.f135))
  rw [e_impl_Bridge_setThing] at h
  exact h
noncomputable def fns_135 : List (FuncId × Fn) := (135, F_impl_Bridge_setThing) :: fns_199
theorem g_135 : Good Try.prog ⟨tis, fns_135⟩ := g_199.cons m_impl_Bridge_setThing
noncomputable def impl_entAt_l0 (l0 : List Fent) (tag1 : Int) (mac2 : Int) (t11 : Int) : Option (Int ⊕ (Unit ⊕ Int)) :=
  cond (decide (t11 < (l0.length : Int)))
    ((at? l0 t11).bind fun x14 =>
    (cond (x14.1 == tag1) (some (x14.2.1 == mac2)) (some false)).bind fun t25 =>
    cond t25 (some (.inr (.inr t11))) (some (.inl (w64 (t11 + 1)))))
    (some (.inr (.inl ())))
noncomputable def impl_entAt (l0 : List Fent) (tag1 : Int) (mac2 : Int) : Option Int :=
  (loop (fun z => impl_entAt_l0 l0 tag1 mac2 z) 0).bind (Sum.elim (fun d =>
    some (-1)) (fun r => some r))
noncomputable def F_impl_entAt : Fn := ⟨[.val false (.one (.sl cFent)) false, .val false (.one (.int .i64)) false, .val false (.one (.int .i64)) false], [.val false (.one (.int .i64)) true], fun a => impl_entAt a.1 a.2.1 a.2.2⟩
def a_impl_entAt : List (Nat × LoopAnn) := [(0, ⟨⟨[(11, false, [.dat (.int .i64)]), (21, false, [.undef]), (22, false, [.undef]), (23, false, [.undef]), (24, false, [.undef])], []⟩,
    ⟨[], []⟩, some ⟨[(6, false, [.dat (.int .i64)])], []⟩⟩)]
theorem e_impl_entAt : fnDen ⟨tis, fns_135⟩ a_impl_entAt Try.f138 (codeOf Try.f138) [.val false (.one (.sl cFent)) false, .val false (.one (.int .i64)) false, .val false (.one (.int .i64)) false] [.val false (.one (.int .i64)) true] = fun a => impl_entAt a.1 a.2.1 a.2.2 := by kernel_rfl
theorem m_impl_entAt : Meets Try.prog 138 F_impl_entAt := by
  have h := meets_of (ann := a_impl_entAt) (ps := [.val false (.one (.sl cFent)) false, .val false (.one (.int .i64)) false, .val false (.one (.int .i64)) false]) (rs := [.val false (.one (.int .i64)) true]) g_135 mixed Try.func138 (by kernel_rfl) (by kernel_rfl : Try.f138.body = some (codeOf Try.f138))
  rw [e_impl_entAt] at h
  exact h
noncomputable def fns_138 : List (FuncId × Fn) := (138, F_impl_entAt) :: fns_135
theorem g_138 : Good Try.prog ⟨tis, fns_138⟩ := g_135.cons m_impl_entAt
noncomputable def impl_canRead (b0 : Bridge) (o1 : List Int) : Option Bool :=
  (impl_numbered o1 2 5 ([1] : List Int)).bind fun t11 =>
  (cond t11
    (some true)
    ((impl_numbered o1 1 (b0.2.2.1.length : Int) ([2, 1] : List Int)).bind fun t16 =>
    some t16)).bind fun t17 =>
  (cond t17
    (some true)
    ((impl_numbered o1 1 (b0.2.2.1.length : Int) ([2, 3] : List Int)).bind fun t22 =>
    some t22)).bind fun t23 =>
  cond t23
    (some true)
    ((cond ((o1.length : Int) == 7)
      ((cut o1 0 5).bind fun t29 =>
      (impl_SameOid t29 ([1, 3, 1, 4, 1] : List Int)).bind fun t31 =>
      some t31)
      (some false)).bind fun t32 =>
    (cond t32
      ((at? o1 5).bind fun x37 =>
      (at? o1 6).bind fun x40 =>
      (impl_entAt b0.2.2.2.1 x37 x40).bind fun t42 =>
      some (decide (t42 ≥ 0)))
      (some false)).bind fun t44 =>
    some t44)
noncomputable def F_impl_canRead : Fn := ⟨[.val true cBridge false, .val false (.one (.sl (.one (.int .i64)))) false], [.val false (.one .bool) true], fun a => impl_canRead a.1 a.2⟩
def a_impl_canRead : List (Nat × LoopAnn) := []
theorem e_impl_canRead : fnDen ⟨tis, fns_138⟩ a_impl_canRead Try.f136 (codeOf Try.f136) [.val true cBridge false, .val false (.one (.sl (.one (.int .i64)))) false] [.val false (.one .bool) true] = fun a => impl_canRead a.1 a.2 := by kernel_rfl
theorem m_impl_canRead : Meets Try.prog 136 F_impl_canRead := by
  have h := meets_of (ann := a_impl_canRead) (ps := [.val true cBridge false, .val false (.one (.sl (.one (.int .i64)))) false]) (rs := [.val false (.one .bool) true]) g_138 mixed Try.func136 (by kernel_rfl) (by kernel_rfl : Try.f136.body = some (codeOf Try.f136))
  rw [e_impl_canRead] at h
  exact h
noncomputable def fns_136 : List (FuncId × Fn) := (136, F_impl_canRead) :: fns_138
theorem g_136 : Good Try.prog ⟨tis, fns_136⟩ := g_138.cons m_impl_canRead
noncomputable def impl_Bridge_set (b0 : Bridge) (x1 : Bind) : Option (Bridge × Int) :=
  (impl_canSet b0 x1.1).bind fun t11 =>
  cond t11
    ((impl_Bridge_setThing b0 x1.1 x1.2).bind fun t17 =>
    some t17)
    ((impl_canRead b0 x1.1).bind fun t24 =>
    cond t24 (some (b0, 4)) (some (b0, 3)))
noncomputable def F_impl_Bridge_set : Fn := ⟨[.ptr cBridge true, .val true cBind false], [.val false (.one (.int .i64)) true], fun a => impl_Bridge_set a.1 a.2⟩
def a_impl_Bridge_set : List (Nat × LoopAnn) := []
theorem e_impl_Bridge_set : fnDen ⟨tis, fns_136⟩ a_impl_Bridge_set Try.f60 (codeOf Try.f60) [.ptr cBridge true, .val true cBind false] [.val false (.one (.int .i64)) true] = fun a => impl_Bridge_set a.1 a.2 := by kernel_rfl
theorem m_impl_Bridge_set : Meets Try.prog 60 F_impl_Bridge_set := by
  have h := meets_of (ann := a_impl_Bridge_set) (ps := [.ptr cBridge true, .val true cBind false]) (rs := [.val false (.one (.int .i64)) true]) g_136 mixed Try.func60 (by kernel_rfl) (by kernel_rfl : Try.f60.body = some (codeOf Try.f60))
  rw [e_impl_Bridge_set] at h
  exact h
noncomputable def fns_60 : List (FuncId × Fn) := (60, F_impl_Bridge_set) :: fns_136
theorem g_60 : Good Try.prog ⟨tis, fns_60⟩ := g_136.cons m_impl_Bridge_set
noncomputable def impl_SetAll_l2 (p0 : Bridge) (t25 : Int) (x28 : Bind) (t32 : List Bind) (t34 : Int) (b0_2 : Int) (b1_2 : List UInt8) (b6_2 : Int) (b7_2 : Int) (b8_2 : Int) (b9_2 : Int) (b10_2 : Int) : Option ((Int × Int × List UInt8 × Int × Int × Int × Int × Int) ⊕ ((Int × List UInt8 × Int × Int × Int × Int × Int) ⊕ (Int × Int × Int × List UInt8 × Int × Int × Int × Int × Int × List Pt × List Fent × List Vrow × List Int))) :=
  cond (decide (t34 < (t32.length : Int)))
    ((at? t32 t34).bind fun x36 =>
    (impl_SameOid x28.1 x36.1).bind fun t42 =>
    cond t42
      ((impl_copyBridge p0).bind fun t44 =>
      some (.inr (.inr (5, w64 (t25 + 1), t44.1, t44.2.1, t44.2.2.2.2.2.2.1, t44.2.2.2.2.2.2.2.1, t44.2.2.2.2.2.2.2.2.1, t44.2.2.2.2.2.2.2.2.2.1, t44.2.2.2.2.2.2.2.2.2.2, t44.2.2.1, t44.2.2.2.1, t44.2.2.2.2.1, t44.2.2.2.2.2.1))))
      (some (.inl (w64 (t34 + 1), b0_2, b1_2, b6_2, b7_2, b8_2, b9_2, b10_2))))
    (some (.inr (.inl (b0_2, b1_2, b6_2, b7_2, b8_2, b9_2, b10_2))))
noncomputable def impl_SetAll_l0 (p0 : Bridge) (i1 : List Bind) (t25 : Int) (b0 : Int) (b1 : List UInt8) (b6 : Int) (b7 : Int) (b8 : Int) (b9 : Int) (b10 : Int) (b0_1 : Int) (b1_1 : List UInt8) (b6_1 : Int) (b7_1 : Int) (b8_1 : Int) (b9_1 : Int) (b10_1 : Int) (b2 : List Pt) (b3 : List Fent) (b4 : List Vrow) (b5 : List Int) (b2_1 : List Pt) (b3_1 : List Fent) (b4_1 : List Vrow) (b5_1 : List Int) : Option ((Int × Int × List UInt8 × Int × Int × Int × Int × Int × Int × List UInt8 × Int × Int × Int × Int × Int × List Pt × List Fent × List Vrow × List Int × List Pt × List Fent × List Vrow × List Int) ⊕ ((Int × List UInt8 × Int × Int × Int × Int × Int × Int × List UInt8 × Int × Int × Int × Int × Int × List Pt × List Fent × List Vrow × List Int × List Pt × List Fent × List Vrow × List Int) ⊕ (Int × Int × Int × List UInt8 × Int × Int × Int × Int × Int × List Pt × List Fent × List Vrow × List Int))) :=
  cond (decide (t25 < (i1.length : Int)))
    ((at? i1 t25).bind fun x28 =>
    (cut i1 0 t25).bind fun t32 =>
    (loop (fun z => impl_SetAll_l2 p0 t25 x28 t32 z.1 z.2.1 z.2.2.1 z.2.2.2.1 z.2.2.2.2.1 z.2.2.2.2.2.1 z.2.2.2.2.2.2.1 z.2.2.2.2.2.2.2) (0, b0, b1, b6, b7, b8, b9, b10)).bind (Sum.elim (fun d =>
      (impl_Bridge_set (b0_1, b1_1, b2_1, b3_1, b4_1, b5_1, b6_1, b7_1, b8_1, b9_1, b10_1) x28).bind fun t49 =>
      cond (t49.2 != 0)
        ((impl_copyBridge p0).bind fun t53 =>
        some (.inr (.inr (t49.2, w64 (t25 + 1), t53.1, t53.2.1, t53.2.2.2.2.2.2.1, t53.2.2.2.2.2.2.2.1, t53.2.2.2.2.2.2.2.2.1, t53.2.2.2.2.2.2.2.2.2.1, t53.2.2.2.2.2.2.2.2.2.2, t53.2.2.1, t53.2.2.2.1, t53.2.2.2.2.1, t53.2.2.2.2.2.1))))
        (some (.inl (w64 (t25 + 1), d.1, d.2.1, d.2.2.1, d.2.2.2.1, d.2.2.2.2.1, d.2.2.2.2.2.1, d.2.2.2.2.2.2, t49.1.1, t49.1.2.1, t49.1.2.2.2.2.2.2.1, t49.1.2.2.2.2.2.2.2.1, t49.1.2.2.2.2.2.2.2.2.1, t49.1.2.2.2.2.2.2.2.2.2.1, t49.1.2.2.2.2.2.2.2.2.2.2, b2, b3, b4, b5, t49.1.2.2.1, t49.1.2.2.2.1, t49.1.2.2.2.2.1, t49.1.2.2.2.2.2.1)))) (fun r => some (.inr (.inr r)))))
    (some (.inr (.inl (b0, b1, b6, b7, b8, b9, b10, b0_1, b1_1, b6_1, b7_1, b8_1, b9_1, b10_1, b2, b3, b4, b5, b2_1, b3_1, b4_1, b5_1))))
noncomputable def impl_SetAll (p0 : Bridge) (i1 : List Bind) : Option (Bridge × Int × Int) :=
  (impl_copyBridge p0).bind fun t14 =>
  cond ((i1.length : Int) == 0)
    (some (t14, 0, 0))
    ((impl_BridgeOk p0).bind fun t20 =>
    cond (!t20)
      (some (t14, 3, 1))
      ((loop (fun z => impl_SetAll_l0 p0 i1 z.1 z.2.1 z.2.2.1 z.2.2.2.1 z.2.2.2.2.1 z.2.2.2.2.2.1 z.2.2.2.2.2.2.1 z.2.2.2.2.2.2.2.1 z.2.2.2.2.2.2.2.2.1 z.2.2.2.2.2.2.2.2.2.1 z.2.2.2.2.2.2.2.2.2.2.1 z.2.2.2.2.2.2.2.2.2.2.2.1 z.2.2.2.2.2.2.2.2.2.2.2.2.1 z.2.2.2.2.2.2.2.2.2.2.2.2.2.1 z.2.2.2.2.2.2.2.2.2.2.2.2.2.2.1 z.2.2.2.2.2.2.2.2.2.2.2.2.2.2.2.1 z.2.2.2.2.2.2.2.2.2.2.2.2.2.2.2.2.1 z.2.2.2.2.2.2.2.2.2.2.2.2.2.2.2.2.2.1 z.2.2.2.2.2.2.2.2.2.2.2.2.2.2.2.2.2.2.1 z.2.2.2.2.2.2.2.2.2.2.2.2.2.2.2.2.2.2.2.1 z.2.2.2.2.2.2.2.2.2.2.2.2.2.2.2.2.2.2.2.2.1 z.2.2.2.2.2.2.2.2.2.2.2.2.2.2.2.2.2.2.2.2.2.1 z.2.2.2.2.2.2.2.2.2.2.2.2.2.2.2.2.2.2.2.2.2.2) (0, 0, [], 0, 0, 0, 0, 0, t14.1, t14.2.1, t14.2.2.2.2.2.2.1, t14.2.2.2.2.2.2.2.1, t14.2.2.2.2.2.2.2.2.1, t14.2.2.2.2.2.2.2.2.2.1, t14.2.2.2.2.2.2.2.2.2.2, [], [], [], [], t14.2.2.1, t14.2.2.2.1, t14.2.2.2.2.1, t14.2.2.2.2.2.1)).bind (Sum.elim (fun d_1 =>
        (impl_VtabOk d_1.2.2.2.2.2.2.2.2.2.2.2.2.2.2.2.2.2.2.2.2 (d_1.2.2.2.2.2.2.2.2.2.2.2.2.2.2.2.2.2.2.1.length : Int)).bind fun t63 =>
        cond (!t63)
          ((impl_copyBridge p0).bind fun t66 =>
          some (t66, 5, (i1.length : Int)))
          ((impl_Bridge_turn (d_1.2.2.2.2.2.2.2.1, d_1.2.2.2.2.2.2.2.2.1, d_1.2.2.2.2.2.2.2.2.2.2.2.2.2.2.2.2.2.2.1, d_1.2.2.2.2.2.2.2.2.2.2.2.2.2.2.2.2.2.2.2.1, d_1.2.2.2.2.2.2.2.2.2.2.2.2.2.2.2.2.2.2.2.2.1, d_1.2.2.2.2.2.2.2.2.2.2.2.2.2.2.2.2.2.2.2.2.2, d_1.2.2.2.2.2.2.2.2.2.1, d_1.2.2.2.2.2.2.2.2.2.2.1, d_1.2.2.2.2.2.2.2.2.2.2.2.1, d_1.2.2.2.2.2.2.2.2.2.2.2.2.1, d_1.2.2.2.2.2.2.2.2.2.2.2.2.2.1)).bind fun t69 =>
          some (t69, 0, 0))) (fun r_1 => some ((r_1.2.2.1, r_1.2.2.2.1, r_1.2.2.2.2.2.2.2.2.2.1, r_1.2.2.2.2.2.2.2.2.2.2.1, r_1.2.2.2.2.2.2.2.2.2.2.2.1, r_1.2.2.2.2.2.2.2.2.2.2.2.2, r_1.2.2.2.2.1, r_1.2.2.2.2.2.1, r_1.2.2.2.2.2.2.1, r_1.2.2.2.2.2.2.2.1, r_1.2.2.2.2.2.2.2.2.1), r_1.1, r_1.2.1)))))
noncomputable def F_impl_SetAll : Fn := ⟨[.val true cBridge false, .val false (.one (.sl cBind)) false], [.val true cBridge true, .val false (.one (.int .i64)) true, .val false (.one (.int .i64)) true], fun a => impl_SetAll a.1 a.2⟩
def a_impl_SetAll : List (Nat × LoopAnn) := [(0, ⟨⟨[(25, false, [.dat (.int .i64)])], [(2048, .box [.dat (.int .i64), .dat .str, .own 1000000000, .own 1000000001, .own 1000000002, .own 1000000003, .dat (.int .i64), .dat (.int .i64), .dat (.int .i64), .dat (.int .i64), .dat (.int .i64)]), (265216, .box [.dat (.int .i64), .dat .str, .own 1000000004, .own 1000000005, .own 1000000006, .own 1000000007, .dat (.int .i64), .dat (.int .i64), .dat (.int .i64), .dat (.int .i64), .dat (.int .i64)]), (1000000000, .root cPt true), (1000000001, .root cFent true), (1000000002, .root cVrow true), (1000000003, .root (.one (.int .i64)) true), (1000000004, .root cPt true), (1000000005, .root cFent true), (1000000006, .root cVrow true), (1000000007, .root (.one (.int .i64)) true)]⟩,
    ⟨[], [(2048, .box [.dat (.int .i64), .dat .str, .own 1000000300, .own 1000000301, .own 1000000302, .own 1000000303, .dat (.int .i64), .dat (.int .i64), .dat (.int .i64), .dat (.int .i64), .dat (.int .i64)]), (265216, .box [.dat (.int .i64), .dat .str, .own 1000000304, .own 1000000305, .own 1000000306, .own 1000000307, .dat (.int .i64), .dat (.int .i64), .dat (.int .i64), .dat (.int .i64), .dat (.int .i64)]), (1000000300, .root cPt true), (1000000301, .root cFent true), (1000000302, .root cVrow true), (1000000303, .root (.one (.int .i64)) true), (1000000304, .root cPt true), (1000000305, .root cFent true), (1000000306, .root cVrow true), (1000000307, .root (.one (.int .i64)) true)]⟩, some ⟨[(5, false, [.dat (.int .i64)]), (6, false, [.dat (.int .i64)])], [(2048, .box [.dat (.int .i64), .dat .str, .own 1000000600, .own 1000000601, .own 1000000602, .own 1000000603, .dat (.int .i64), .dat (.int .i64), .dat (.int .i64), .dat (.int .i64), .dat (.int .i64)]), (1000000600, .root cPt true), (1000000601, .root cFent true), (1000000602, .root cVrow true), (1000000603, .root (.one (.int .i64)) true)]⟩⟩),
  (2, ⟨⟨[(34, false, [.dat (.int .i64)])], [(2048, .box [.dat (.int .i64), .dat .str, .same 1000000000, .same 1000000001, .same 1000000002, .same 1000000003, .dat (.int .i64), .dat (.int .i64), .dat (.int .i64), .dat (.int .i64), .dat (.int .i64)])]⟩,
    ⟨[], [(2048, .box [.dat (.int .i64), .dat .str, .same 1000000000, .same 1000000001, .same 1000000002, .same 1000000003, .dat (.int .i64), .dat (.int .i64), .dat (.int .i64), .dat (.int .i64), .dat (.int .i64)])]⟩, some ⟨[(5, false, [.dat (.int .i64)]), (6, false, [.dat (.int .i64)])], [(2048, .box [.dat (.int .i64), .dat .str, .own 1000002600, .own 1000002601, .own 1000002602, .own 1000002603, .dat (.int .i64), .dat (.int .i64), .dat (.int .i64), .dat (.int .i64), .dat (.int .i64)]), (1000002600, .root cPt true), (1000002601, .root cFent true), (1000002602, .root cVrow true), (1000002603, .root (.one (.int .i64)) true)]⟩⟩)]
theorem e_impl_SetAll : fnDen ⟨tis, fns_60⟩ a_impl_SetAll Try.f14 (codeOf Try.f14) [.val true cBridge false, .val false (.one (.sl cBind)) false] [.val true cBridge true, .val false (.one (.int .i64)) true, .val false (.one (.int .i64)) true] = fun a => impl_SetAll a.1 a.2 := by kernel_rfl
theorem m_impl_SetAll : Meets Try.prog 14 F_impl_SetAll := by
  have h := meets_of (ann := a_impl_SetAll) (ps := [.val true cBridge false, .val false (.one (.sl cBind)) false]) (rs := [.val true cBridge true, .val false (.one (.int .i64)) true, .val false (.one (.int .i64)) true]) g_60 mixed Try.func14 (by kernel_rfl) (by kernel_rfl : Try.f14.body = some (codeOf Try.f14))
  rw [e_impl_SetAll] at h
  exact h
noncomputable def fns_14 : List (FuncId × Fn) := (14, F_impl_SetAll) :: fns_60
theorem g_14 : Good Try.prog ⟨tis, fns_14⟩ := g_60.cons m_impl_SetAll
noncomputable def laws_number (n0 : Int) : Option Val :=
  some (2, n0, [], [])
noncomputable def F_laws_number : Fn := ⟨[.val false (.one (.int .i64)) false], [.val true cVal true], fun a => laws_number a⟩
def a_laws_number : List (Nat × LoopAnn) := []
theorem e_laws_number : fnDen ⟨tis, fns_14⟩ a_laws_number Try.f15 (codeOf Try.f15) [.val false (.one (.int .i64)) false] [.val true cVal true] = fun a => laws_number a := by kernel_rfl
theorem m_laws_number : Meets Try.prog 15 F_laws_number := by
  have h := meets_of (ann := a_laws_number) (ps := [.val false (.one (.int .i64)) false]) (rs := [.val true cVal true]) g_14 mixed Try.func15 (by kernel_rfl) (by kernel_rfl : Try.f15.body = some (codeOf Try.f15))
  rw [e_laws_number] at h
  exact h
noncomputable def fns_15 : List (FuncId × Fn) := (15, F_laws_number) :: fns_14
theorem g_15 : Good Try.prog ⟨tis, fns_15⟩ := g_14.cons m_laws_number
noncomputable def laws_at (code0 : List Int) (i1 : Int) : Option Int :=
  cond (decide (i1 < (code0.length : Int)))
    ((at? code0 i1).bind fun x11 =>
    some (w64 (x11)))
    (let t4 := (w64 ((w64 (i1 * 31)) + (w64 ((code0.length : Int) * 7)))).tmod 256
    some t4)
noncomputable def F_laws_at : Fn := ⟨[.val false (.one (.sl (.one (.int .u8)))) false, .val false (.one (.int .i64)) false], [.val false (.one (.int .i64)) true], fun a => laws_at a.1 a.2⟩
def a_laws_at : List (Nat × LoopAnn) := []
theorem e_laws_at : fnDen ⟨tis, fns_15⟩ a_laws_at Try.f16 (codeOf Try.f16) [.val false (.one (.sl (.one (.int .u8)))) false, .val false (.one (.int .i64)) false] [.val false (.one (.int .i64)) true] = fun a => laws_at a.1 a.2 := by kernel_rfl
theorem m_laws_at : Meets Try.prog 16 F_laws_at := by
  have h := meets_of (ann := a_laws_at) (ps := [.val false (.one (.sl (.one (.int .u8)))) false, .val false (.one (.int .i64)) false]) (rs := [.val false (.one (.int .i64)) true]) g_15 mixed Try.func16 (by kernel_rfl) (by kernel_rfl : Try.f16.body = some (codeOf Try.f16))
  rw [e_laws_at] at h
  exact h
noncomputable def fns_16 : List (FuncId × Fn) := (16, F_laws_at) :: fns_15
theorem g_16 : Good Try.prog ⟨tis, fns_16⟩ := g_15.cons m_laws_at
noncomputable def impl_FrameOk (f0 : Frame) : Option Bool :=
  (impl_in f0.1 0 9999).bind fun t5 =>
  (cond t5
    ((impl_in f0.2.1 1 9999).bind fun t9 =>
    some t9)
    (some false)).bind fun t10 =>
  (cond t10
    ((impl_in f0.2.2.1 0 99).bind fun t14 =>
    some t14)
    (some false)).bind fun t15 =>
  (cond t15 (some (decide ((f0.2.2.2.length : Int) ≤ 20))) (some false)).bind fun t21 =>
  some t21
noncomputable def F_impl_FrameOk : Fn := ⟨[.val true cFrame false], [.val false (.one .bool) true], fun a => impl_FrameOk a⟩
def a_impl_FrameOk : List (Nat × LoopAnn) := []
theorem e_impl_FrameOk : fnDen ⟨tis, fns_16⟩ a_impl_FrameOk Try.f62 (codeOf Try.f62) [.val true cFrame false] [.val false (.one .bool) true] = fun a => impl_FrameOk a := by kernel_rfl
theorem m_impl_FrameOk : Meets Try.prog 62 F_impl_FrameOk := by
  have h := meets_of (ann := a_impl_FrameOk) (ps := [.val true cFrame false]) (rs := [.val false (.one .bool) true]) g_16 mixed Try.func62 (by kernel_rfl) (by kernel_rfl : Try.f62.body = some (codeOf Try.f62))
  rw [e_impl_FrameOk] at h
  exact h
noncomputable def fns_62 : List (FuncId × Fn) := (62, F_impl_FrameOk) :: fns_16
theorem g_62 : Good Try.prog ⟨tis, fns_62⟩ := g_16.cons m_impl_FrameOk
noncomputable def impl_ClassOf (v0 : Vtab) (port1 : Int) (tag2 : Int) : Option (Int × Bool) :=
  (impl_in port1 0 (w64 ((v0.2.length : Int) - 1))).bind fun t15 =>
  cond (!t15)
    (some (0, false))
    (cond (tag2 == 0)
      ((at? v0.2 port1).bind fun x23 =>
      (impl_RowAt v0 x23).bind fun t27 =>
      (cond (decide (t27 < 0))
        (some true)
        ((at? v0.1 t27).bind fun x34 =>
        (impl_hasPort x34.2.1 port1).bind fun t38 =>
        some (!t38))).bind fun t40 =>
      cond t40 (some (0, false)) (some (x23, true)))
      ((impl_RowAt v0 tag2).bind fun t27_1 =>
      (cond (decide (t27_1 < 0))
        (some true)
        ((at? v0.1 t27_1).bind fun x34_1 =>
        (impl_hasPort x34_1.2.1 port1).bind fun t38_1 =>
        some (!t38_1))).bind fun t40_1 =>
      cond t40_1 (some (0, false)) (some (tag2, true))))
noncomputable def F_impl_ClassOf : Fn := ⟨[.val true cVtab false, .val false (.one (.int .i64)) false, .val false (.one (.int .i64)) false], [.val false (.one (.int .i64)) true, .val false (.one .bool) true], fun a => impl_ClassOf a.1 a.2.1 a.2.2⟩
def a_impl_ClassOf : List (Nat × LoopAnn) := []
theorem e_impl_ClassOf : fnDen ⟨tis, fns_62⟩ a_impl_ClassOf Try.f64 (codeOf Try.f64) [.val true cVtab false, .val false (.one (.int .i64)) false, .val false (.one (.int .i64)) false] [.val false (.one (.int .i64)) true, .val false (.one .bool) true] = fun a => impl_ClassOf a.1 a.2.1 a.2.2 := by kernel_rfl
theorem m_impl_ClassOf : Meets Try.prog 64 F_impl_ClassOf := by
  have h := meets_of (ann := a_impl_ClassOf) (ps := [.val true cVtab false, .val false (.one (.int .i64)) false, .val false (.one (.int .i64)) false]) (rs := [.val false (.one (.int .i64)) true, .val false (.one .bool) true]) g_62 mixed Try.func64 (by kernel_rfl) (by kernel_rfl : Try.f64.body = some (codeOf Try.f64))
  rw [e_impl_ClassOf] at h
  exact h
noncomputable def fns_64 : List (FuncId × Fn) := (64, F_impl_ClassOf) :: fns_62
theorem g_64 : Good Try.prog ⟨tis, fns_64⟩ := g_62.cons m_impl_ClassOf
noncomputable def impl_put_l0 (l0 : List Fent) (e1 : Fent) (k8 : Int) : Option (Int ⊕ Int) :=
  (cond (decide (k8 < (l0.length : Int)))
    ((at? l0 k8).bind fun x35 =>
    (impl_behind x35 e1.1 e1.2.1).bind fun t41 =>
    some (!t41))
    (some false)).bind fun t43 =>
  cond t43 (some (.inl (w64 (k8 + 1)))) (some (.inr k8))
noncomputable def impl_put (l0 : List Fent) (e1 : Fent) : Option ((List Fent) × Bool) :=
  (impl_copyFdb l0).bind fun t10 =>
  (impl_entAt l0 e1.1 e1.2.1).bind fun t16 =>
  cond (decide (t16 ≥ 0))
    ((ix t10.length t16).bind fun j22 =>
    (t10[j22]?).bind fun x =>
    some (t10.set j22 e1, true))
    (cond (decide ((l0.length : Int) ≥ 12))
      (some (t10, false))
      ((loop (fun z => impl_put_l0 l0 e1 z) 0).bind fun d =>
      (cut l0 0 d).bind fun t48 =>
      (impl_copyFdb t48).bind fun t49 =>
      (app t49 [e1]).bind fun zs52 =>
      (cut l0 d (l0.length : Int)).bind fun t55 =>
      (app zs52 t55).bind fun zs56 =>
      some (zs56, true)))
noncomputable def F_impl_put : Fn := ⟨[.val false (.one (.sl cFent)) false, .val true cFent false], [.val false (.one (.sl cFent)) true, .val false (.one .bool) true], fun a => impl_put a.1 a.2⟩
def a_impl_put : List (Nat × LoopAnn) := [(0, ⟨⟨[(8, false, [.dat (.int .i64)]), (33, false, [.undef]), (34, false, [.undef]), (35, false, [.undef]), (36, false, [.undef]), (37, false, [.undef]), (38, false, [.undef]), (39, false, [.undef]), (40, false, [.undef]), (41, false, [.undef]), (42, false, [.undef])], []⟩,
    ⟨[(8, false, [.dat (.int .i64)])], []⟩, none⟩)]
theorem e_impl_put : fnDen ⟨tis, fns_64⟩ a_impl_put Try.f140 (codeOf Try.f140) [.val false (.one (.sl cFent)) false, .val true cFent false] [.val false (.one (.sl cFent)) true, .val false (.one .bool) true] = fun a => impl_put a.1 a.2 := by kernel_rfl
theorem m_impl_put : Meets Try.prog 140 F_impl_put := by
  have h := meets_of (ann := a_impl_put) (ps := [.val false (.one (.sl cFent)) false, .val true cFent false]) (rs := [.val false (.one (.sl cFent)) true, .val false (.one .bool) true]) g_64 mixed Try.func140 (by kernel_rfl) (by kernel_rfl : Try.f140.body = some (codeOf Try.f140))
  rw [e_impl_put] at h
  exact h
noncomputable def fns_140 : List (FuncId × Fn) := (140, F_impl_put) :: fns_64
theorem g_140 : Good Try.prog ⟨tis, fns_140⟩ := g_64.cons m_impl_put
noncomputable def impl_Learn (l0 : List Fent) (tag1 : Int) (mac2 : Int) (port3 : Int) : Option (List Fent) :=
  (impl_entAt l0 tag1 mac2).bind fun t20 =>
  (impl_FdbOk l0).bind fun t22 =>
  (cond (!t22)
    (some true)
    ((impl_fentOk (tag1, mac2, port3, 0, false)).bind fun t26 =>
    some (!t26))).bind fun t28 =>
  (cond t28
    (some true)
    ((cond (decide (t20 ≥ 0))
      ((at? l0 t20).bind fun x35 =>
      some x35.2.2.2.2)
      (some false)).bind fun t38 =>
    some t38)).bind fun t39 =>
  cond t39
    ((impl_copyFdb l0).bind fun t41 =>
    some t41)
    ((impl_put l0 (tag1, mac2, port3, 0, false)).bind fun t45 =>
    some t45.1)
noncomputable def F_impl_Learn : Fn := ⟨[.val false (.one (.sl cFent)) false, .val false (.one (.int .i64)) false, .val false (.one (.int .i64)) false, .val false (.one (.int .i64)) false], [.val false (.one (.sl cFent)) true], fun a => impl_Learn a.1 a.2.1 a.2.2.1 a.2.2.2⟩
def a_impl_Learn : List (Nat × LoopAnn) := []
theorem e_impl_Learn : fnDen ⟨tis, fns_140⟩ a_impl_Learn Try.f67 (codeOf Try.f67) [.val false (.one (.sl cFent)) false, .val false (.one (.int .i64)) false, .val false (.one (.int .i64)) false, .val false (.one (.int .i64)) false] [.val false (.one (.sl cFent)) true] = fun a => impl_Learn a.1 a.2.1 a.2.2.1 a.2.2.2 := by kernel_rfl
theorem m_impl_Learn : Meets Try.prog 67 F_impl_Learn := by
  have h := meets_of (ann := a_impl_Learn) (ps := [.val false (.one (.sl cFent)) false, .val false (.one (.int .i64)) false, .val false (.one (.int .i64)) false, .val false (.one (.int .i64)) false]) (rs := [.val false (.one (.sl cFent)) true]) g_140 mixed Try.func67 (by kernel_rfl) (by kernel_rfl : Try.f67.body = some (codeOf Try.f67))
  rw [e_impl_Learn] at h
  exact h
noncomputable def fns_67 : List (FuncId × Fn) := (67, F_impl_Learn) :: fns_140
theorem g_67 : Good Try.prog ⟨tis, fns_67⟩ := g_140.cons m_impl_Learn
noncomputable def impl_LookUp (l0 : List Fent) (tag1 : Int) (mac2 : Int) : Option Int :=
  (impl_entAt l0 tag1 mac2).bind fun t11 =>
  cond (decide (t11 < 0))
    (some (-1))
    ((at? l0 t11).bind fun x16 =>
    some x16.2.2.1)
noncomputable def F_impl_LookUp : Fn := ⟨[.val false (.one (.sl cFent)) false, .val false (.one (.int .i64)) false, .val false (.one (.int .i64)) false], [.val false (.one (.int .i64)) true], fun a => impl_LookUp a.1 a.2.1 a.2.2⟩
def a_impl_LookUp : List (Nat × LoopAnn) := []
theorem e_impl_LookUp : fnDen ⟨tis, fns_67⟩ a_impl_LookUp Try.f68 (codeOf Try.f68) [.val false (.one (.sl cFent)) false, .val false (.one (.int .i64)) false, .val false (.one (.int .i64)) false] [.val false (.one (.int .i64)) true] = fun a => impl_LookUp a.1 a.2.1 a.2.2 := by kernel_rfl
theorem m_impl_LookUp : Meets Try.prog 68 F_impl_LookUp := by
  have h := meets_of (ann := a_impl_LookUp) (ps := [.val false (.one (.sl cFent)) false, .val false (.one (.int .i64)) false, .val false (.one (.int .i64)) false]) (rs := [.val false (.one (.int .i64)) true]) g_67 mixed Try.func68 (by kernel_rfl) (by kernel_rfl : Try.f68.body = some (codeOf Try.f68))
  rw [e_impl_LookUp] at h
  exact h
noncomputable def fns_68 : List (FuncId × Fn) := (68, F_impl_LookUp) :: fns_67
theorem g_68 : Good Try.prog ⟨tis, fns_68⟩ := g_67.cons m_impl_LookUp
noncomputable def impl_EgressOf (v0 : Vtab) (id1 : Int) : Option Int :=
  (impl_RowAt v0 id1).bind fun t8 =>
  cond (decide (t8 < 0))
    (some 0)
    ((at? v0.1 t8).bind fun x14 =>
    some x14.2.1)
noncomputable def F_impl_EgressOf : Fn := ⟨[.val true cVtab false, .val false (.one (.int .i64)) false], [.val false (.one (.int .i64)) true], fun a => impl_EgressOf a.1 a.2⟩
def a_impl_EgressOf : List (Nat × LoopAnn) := []
theorem e_impl_EgressOf : fnDen ⟨tis, fns_68⟩ a_impl_EgressOf Try.f69 (codeOf Try.f69) [.val true cVtab false, .val false (.one (.int .i64)) false] [.val false (.one (.int .i64)) true] = fun a => impl_EgressOf a.1 a.2 := by kernel_rfl
theorem m_impl_EgressOf : Meets Try.prog 69 F_impl_EgressOf := by
  have h := meets_of (ann := a_impl_EgressOf) (ps := [.val true cVtab false, .val false (.one (.int .i64)) false]) (rs := [.val false (.one (.int .i64)) true]) g_68 mixed Try.func69 (by kernel_rfl) (by kernel_rfl : Try.f69.body = some (codeOf Try.f69))
  rw [e_impl_EgressOf] at h
  exact h
noncomputable def fns_69 : List (FuncId × Fn) := (69, F_impl_EgressOf) :: fns_68
theorem g_69 : Good Try.prog ⟨tis, fns_69⟩ := g_68.cons m_impl_EgressOf
noncomputable def impl_copyBytes (b0 : List Int) : Option (List Int) :=
  (app [] b0).bind fun zs4 =>
  some zs4
noncomputable def F_impl_copyBytes : Fn := ⟨[.val false (.one (.sl (.one (.int .u8)))) false], [.val false (.one (.sl (.one (.int .u8)))) true], fun a => impl_copyBytes a⟩
def a_impl_copyBytes : List (Nat × LoopAnn) := []
theorem e_impl_copyBytes : fnDen ⟨tis, fns_69⟩ a_impl_copyBytes Try.f141 (codeOf Try.f141) [.val false (.one (.sl (.one (.int .u8)))) false] [.val false (.one (.sl (.one (.int .u8)))) true] = fun a => impl_copyBytes a := by kernel_rfl
theorem m_impl_copyBytes : Meets Try.prog 141 F_impl_copyBytes := by
  have h := meets_of (ann := a_impl_copyBytes) (ps := [.val false (.one (.sl (.one (.int .u8)))) false]) (rs := [.val false (.one (.sl (.one (.int .u8)))) true]) g_69 mixed Try.func141 (by kernel_rfl) (by kernel_rfl : Try.f141.body = some (codeOf Try.f141))
  rw [e_impl_copyBytes] at h
  exact h
noncomputable def fns_141 : List (FuncId × Fn) := (141, F_impl_copyBytes) :: fns_69
theorem g_141 : Good Try.prog ⟨tis, fns_141⟩ := g_69.cons m_impl_copyBytes
noncomputable def impl_Tagged (f0 : Frame) (tag1 : Int) : Option Frame :=
  (impl_copyBytes f0.2.2.2).bind fun t7 =>
  some (f0.1, f0.2.1, tag1, t7)
noncomputable def F_impl_Tagged : Fn := ⟨[.val true cFrame false, .val false (.one (.int .i64)) false], [.val true cFrame true], fun a => impl_Tagged a.1 a.2⟩
def a_impl_Tagged : List (Nat × LoopAnn) := []
theorem e_impl_Tagged : fnDen ⟨tis, fns_141⟩ a_impl_Tagged Try.f70 (codeOf Try.f70) [.val true cFrame false, .val false (.one (.int .i64)) false] [.val true cFrame true] = fun a => impl_Tagged a.1 a.2 := by kernel_rfl
theorem m_impl_Tagged : Meets Try.prog 70 F_impl_Tagged := by
  have h := meets_of (ann := a_impl_Tagged) (ps := [.val true cFrame false, .val false (.one (.int .i64)) false]) (rs := [.val true cFrame true]) g_141 mixed Try.func70 (by kernel_rfl) (by kernel_rfl : Try.f70.body = some (codeOf Try.f70))
  rw [e_impl_Tagged] at h
  exact h
noncomputable def fns_70 : List (FuncId × Fn) := (70, F_impl_Tagged) :: fns_141
theorem g_70 : Good Try.prog ⟨tis, fns_70⟩ := g_141.cons m_impl_Tagged
noncomputable def impl_ShownTag (v0 : Vtab) (id1 : Int) (port2 : Int) : Option Int :=
  (impl_RowAt v0 id1).bind fun t10 =>
  (cond (decide (t10 < 0))
    (some true)
    ((at? v0.1 t10).bind fun x17 =>
    (impl_hasPort x17.2.2 port2).bind fun t21 =>
    some t21)).bind fun t22 =>
  cond t22 (some 0) (some id1)
noncomputable def F_impl_ShownTag : Fn := ⟨[.val true cVtab false, .val false (.one (.int .i64)) false, .val false (.one (.int .i64)) false], [.val false (.one (.int .i64)) true], fun a => impl_ShownTag a.1 a.2.1 a.2.2⟩
def a_impl_ShownTag : List (Nat × LoopAnn) := []
theorem e_impl_ShownTag : fnDen ⟨tis, fns_70⟩ a_impl_ShownTag Try.f71 (codeOf Try.f71) [.val true cVtab false, .val false (.one (.int .i64)) false, .val false (.one (.int .i64)) false] [.val false (.one (.int .i64)) true] = fun a => impl_ShownTag a.1 a.2.1 a.2.2 := by kernel_rfl
theorem m_impl_ShownTag : Meets Try.prog 71 F_impl_ShownTag := by
  have h := meets_of (ann := a_impl_ShownTag) (ps := [.val true cVtab false, .val false (.one (.int .i64)) false, .val false (.one (.int .i64)) false]) (rs := [.val false (.one (.int .i64)) true]) g_70 mixed Try.func71 (by kernel_rfl) (by kernel_rfl : Try.f71.body = some (codeOf Try.f71))
  rw [e_impl_ShownTag] at h
  exact h
noncomputable def fns_71 : List (FuncId × Fn) := (71, F_impl_ShownTag) :: fns_70
theorem g_71 : Good Try.prog ⟨tis, fns_71⟩ := g_70.cons m_impl_ShownTag
noncomputable def impl_Forward_l0 (p0 : Bridge) (i1 : Int) (a2 : Frame) (t31 : Int) (t38 : Int × Bool) (t74 : Int) (t78 : Int) (t13 : List Out) : Option ((Int × List Out) ⊕ (List Out)) :=
  cond (decide (t78 < (p0.2.2.1.length : Int)))
    ((cond (t78 != i1)
      ((impl_EgressOf (p0.2.2.2.2.1, p0.2.2.2.2.2.1) t38.1).bind fun t89 =>
      (impl_hasPort (band .i64 t31 t89) t78).bind fun t92 =>
      some t92)
      (some false)).bind fun t93 =>
    (cond t93
      ((cond (decide (t74 < 0)) (some true) (some (t74 == t78))).bind fun t101 =>
      some t101)
      (some false)).bind fun t102 =>
    cond t102
      ((impl_ShownTag (p0.2.2.2.2.1, p0.2.2.2.2.2.1) t38.1 t78).bind fun t110 =>
      (impl_Tagged a2 t110).bind fun t111 =>
      (app t13 [(t78, t111.1, t111.2.1, t111.2.2.1, t111.2.2.2)]).bind fun zs114 =>
      some (.inl (w64 (t78 + 1), zs114)))
      (some (.inl (w64 (t78 + 1), t13))))
    (some (.inr t13))
noncomputable def impl_Forward_l0_1 (p0 : Bridge) (i1 : Int) (a2 : Frame) (t31 : Int) (t38 : Int × Bool) (t78_1 : Int) (t13_2 : List Out) : Option ((Int × List Out) ⊕ (List Out)) :=
  cond (decide (t78_1 < (p0.2.2.1.length : Int)))
    ((cond (t78_1 != i1)
      ((impl_EgressOf (p0.2.2.2.2.1, p0.2.2.2.2.2.1) t38.1).bind fun t89_1 =>
      (impl_hasPort (band .i64 t31 t89_1) t78_1).bind fun t92_1 =>
      some t92_1)
      (some false)).bind fun t93_1 =>
    (cond t93_1
      ((cond (decide ((-1) < 0)) (some true) (some ((-1) == t78_1))).bind fun t101_1 =>
      some t101_1)
      (some false)).bind fun t102_1 =>
    cond t102_1
      ((impl_ShownTag (p0.2.2.2.2.1, p0.2.2.2.2.2.1) t38.1 t78_1).bind fun t110_1 =>
      (impl_Tagged a2 t110_1).bind fun t111_1 =>
      (app t13_2 [(t78_1, t111_1.1, t111_1.2.1, t111_1.2.2.1, t111_1.2.2.2)]).bind fun zs114_1 =>
      some (.inl (w64 (t78_1 + 1), zs114_1)))
      (some (.inl (w64 (t78_1 + 1), t13_2))))
    (some (.inr t13_2))
noncomputable def impl_Forward (p0 : Bridge) (i1 : Int) (a2 : Frame) : Option (Bridge × List Out) :=
  (impl_copyBridge p0).bind fun t16 =>
  (impl_isPort p0 i1).bind fun t19 =>
  (cond (!t19)
    (some true)
    ((impl_FrameOk a2).bind fun t23 =>
    some (!t23))).bind fun t25 =>
  cond t25
    (some (t16, []))
    ((impl_Sends p0.1 p0.2.2.1).bind fun t31 =>
    (impl_ClassOf (p0.2.2.2.2.1, p0.2.2.2.2.2.1) i1 a2.2.2.1).bind fun t38 =>
    (impl_hasPort t31 i1).bind fun t43 =>
    (cond (!t43) (some true) (some (!t38.2))).bind fun t48 =>
    cond t48
      ((impl_more p0.2.2.2.2.2.2.2.2.2.1).bind fun t51 =>
      some ((t16.1, t16.2.1, t16.2.2.1, t16.2.2.2.1, t16.2.2.2.2.1, t16.2.2.2.2.2.1, t16.2.2.2.2.2.2.1, t16.2.2.2.2.2.2.2.1, t16.2.2.2.2.2.2.2.2.1, t51, t16.2.2.2.2.2.2.2.2.2.2), []))
      ((impl_Learn p0.2.2.2.1 t38.1 a2.2.1 i1).bind fun t60 =>
      (impl_more p0.2.2.2.2.2.2.2.2.2.2).bind fun t64 =>
      cond (a2.1 != 0)
        ((impl_LookUp t60 t38.1 a2.1).bind fun t74 =>
        (loop (fun z => impl_Forward_l0 p0 i1 a2 t31 t38 t74 z.1 z.2) (0, [])).bind fun d =>
        some ((t16.1, t16.2.1, t16.2.2.1, t60, t16.2.2.2.2.1, t16.2.2.2.2.2.1, t16.2.2.2.2.2.2.1, t16.2.2.2.2.2.2.2.1, t16.2.2.2.2.2.2.2.2.1, t16.2.2.2.2.2.2.2.2.2.1, t64), d))
        ((loop (fun z => impl_Forward_l0_1 p0 i1 a2 t31 t38 z.1 z.2) (0, [])).bind fun d_1 =>
        some ((t16.1, t16.2.1, t16.2.2.1, t60, t16.2.2.2.2.1, t16.2.2.2.2.2.1, t16.2.2.2.2.2.2.1, t16.2.2.2.2.2.2.2.1, t16.2.2.2.2.2.2.2.2.1, t16.2.2.2.2.2.2.2.2.2.1, t64), d_1))))
noncomputable def F_impl_Forward : Fn := ⟨[.val true cBridge false, .val false (.one (.int .i64)) false, .val true cFrame false], [.val true cBridge true, .val false (.one (.sl cOut)) true], fun a => impl_Forward a.1 a.2.1 a.2.2⟩
def a_impl_Forward : List (Nat × LoopAnn) := [(0, ⟨⟨[(13, false, [.own 1000000000]), (78, false, [.dat (.int .i64)]), (85, false, [.undef]), (86, false, [.undef]), (87, false, [.undef]), (88, false, [.undef]), (89, false, [.undef]), (90, false, [.undef]), (91, false, [.undef]), (92, false, [.undef]), (95, false, [.undef]), (96, false, [.undef]), (97, false, [.undef]), (98, false, [.undef]), (99, false, [.undef]), (100, false, [.undef]), (101, false, [.undef])], [(1000000000, .root cOut true)]⟩,
    ⟨[(13, false, [.own 1000000300])], [(1000000300, .root cOut true)]⟩, none⟩)]
theorem e_impl_Forward : fnDen ⟨tis, fns_71⟩ a_impl_Forward Try.f17 (codeOf Try.f17) [.val true cBridge false, .val false (.one (.int .i64)) false, .val true cFrame false] [.val true cBridge true, .val false (.one (.sl cOut)) true] = fun a => impl_Forward a.1 a.2.1 a.2.2 := by kernel_rfl
theorem m_impl_Forward : Meets Try.prog 17 F_impl_Forward := by
  have h := meets_of (ann := a_impl_Forward) (ps := [.val true cBridge false, .val false (.one (.int .i64)) false, .val true cFrame false]) (rs := [.val true cBridge true, .val false (.one (.sl cOut)) true]) g_71 mixed Try.func17 (by kernel_rfl) (by kernel_rfl : Try.f17.body = some (codeOf Try.f17))
  rw [e_impl_Forward] at h
  exact h
noncomputable def fns_17 : List (FuncId × Fn) := (17, F_impl_Forward) :: fns_71
theorem g_17 : Good Try.prog ⟨tis, fns_17⟩ := g_71.cons m_impl_Forward
noncomputable def laws_FnVlans_l0 (t4 : Int) (b0 : Int) (b1 : List UInt8) (b6 : Int) (b7 : Int) (b8 : Int) (b9 : Int) (b10 : Int) (b2 : List Pt) (b3 : List Fent) (b4 : List Vrow) (b5 : List Int) : Option ((Int × Int × List UInt8 × Int × Int × Int × Int × Int × List Pt × List Fent × List Vrow × List Int) ⊕ (Int × List UInt8 × Int × Int × Int × Int × Int × List Pt × List Fent × List Vrow × List Int)) :=
  cond (decide (t4 < 4))
    ((impl_LinkSet (b0, b1, b2, b3, b4, b5, b6, b7, b8, b9, b10) t4 true).bind fun t20 =>
    some (.inl (w64 (t4 + 1), t20.1, t20.2.1, t20.2.2.2.2.2.2.1, t20.2.2.2.2.2.2.2.1, t20.2.2.2.2.2.2.2.2.1, t20.2.2.2.2.2.2.2.2.2.1, t20.2.2.2.2.2.2.2.2.2.2, t20.2.2.1, t20.2.2.2.1, t20.2.2.2.2.1, t20.2.2.2.2.2.1)))
    (some (.inr (b0, b1, b6, b7, b8, b9, b10, b2, b3, b4, b5)))
noncomputable def laws_FnVlans (p0 : List Int) : Option Bool :=
  (laws_big p0).bind fun t12 =>
  cond t12
    (some true)
    ((impl_BridgeNew 1 4).bind fun t13 =>
    (loop (fun z => laws_FnVlans_l0 z.1 z.2.1 z.2.2.1 z.2.2.2.1 z.2.2.2.2.1 z.2.2.2.2.2.1 z.2.2.2.2.2.2.1 z.2.2.2.2.2.2.2.1 z.2.2.2.2.2.2.2.2.1 z.2.2.2.2.2.2.2.2.2.1 z.2.2.2.2.2.2.2.2.2.2.1 z.2.2.2.2.2.2.2.2.2.2.2) (0, t13.1, t13.2.1, t13.2.2.2.2.2.2.1, t13.2.2.2.2.2.2.2.1, t13.2.2.2.2.2.2.2.2.1, t13.2.2.2.2.2.2.2.2.2.1, t13.2.2.2.2.2.2.2.2.2.2, t13.2.2.1, t13.2.2.2.1, t13.2.2.2.2.1, t13.2.2.2.2.2.1)).bind fun d =>
    (laws_number 4).bind fun t24 =>
    (laws_number 12).bind fun t27 =>
    (laws_number 12).bind fun t30 =>
    (laws_number 2).bind fun t33 =>
    (laws_number 2).bind fun t36 =>
    (laws_number 3).bind fun t39 =>
    (laws_number 3).bind fun t42 =>
    (impl_SetAll (d.1, d.2.1, d.2.2.2.2.2.2.2.1, d.2.2.2.2.2.2.2.2.1, d.2.2.2.2.2.2.2.2.2.1, d.2.2.2.2.2.2.2.2.2.2, d.2.2.1, d.2.2.2.1, d.2.2.2.2.1, d.2.2.2.2.2.1, d.2.2.2.2.2.2.1) ([(([1, 3, 1, 3, 1, 2] : List Int), t24.1, t24.2.1, t24.2.2.1, t24.2.2.2), (([1, 3, 1, 3, 2, 2] : List Int), t27.1, t27.2.1, t27.2.2.1, t27.2.2.2), (([1, 3, 1, 3, 3, 2] : List Int), t30.1, t30.2.1, t30.2.2.1, t30.2.2.2), (([1, 3, 1, 2, 4, 3] : List Int), t33.1, t33.2.1, t33.2.2.1, t33.2.2.2), (([1, 3, 1, 2, 4, 4] : List Int), t36.1, t36.2.1, t36.2.2.1, t36.2.2.2), (([1, 3, 1, 3, 3, 1] : List Int), t39.1, t39.2.1, t39.2.2.1, t39.2.2.2), (([1, 3, 1, 3, 2, 1] : List Int), t42.1, t42.2.1, t42.2.2.1, t42.2.2.2)])).bind fun t45 =>
    (laws_at p0 2).bind fun t50 =>
    (laws_at p0 3).bind fun t56 =>
    (impl_Forward t45.1 (t50.tmod 4) (w64 ((t56.tmod 2) * 50), 9, 0, [])).bind fun t60 =>
    (cond (t45.2.1 == 0) (some ((d.2.2.2.2.2.2.2.1.length : Int) == 4)) (some false)).bind fun t70 =>
    (cond t70 (some ((t60.2.length : Int) == 1)) (some false)).bind fun t75 =>
    (cond t75
      ((ix t60.2.length 0).bind fun j78 =>
      (t60.2[j78]?).bind fun x80 =>
      some (x80.1 == (bxor .i64 (t50.tmod 4) 1)))
      (some false)).bind fun t84 =>
    (cond t84
      ((ix t60.2.length 0).bind fun j87 =>
      (t60.2[j87]?).bind fun x90 =>
      some (x90.2.2.2.1 == 0))
      (some false)).bind fun t92 =>
    some t92)
noncomputable def F_laws_FnVlans : Fn := ⟨[.val false (.one (.sl (.one (.int .u8)))) false], [.val false (.one .bool) true], fun a => laws_FnVlans a⟩
def a_laws_FnVlans : List (Nat × LoopAnn) := [(0, ⟨⟨[(4, false, [.dat (.int .i64)])], [(788480, .box [.dat (.int .i64), .dat .str, .own 1000000000, .own 1000000001, .own 1000000002, .own 1000000003, .dat (.int .i64), .dat (.int .i64), .dat (.int .i64), .dat (.int .i64), .dat (.int .i64)]), (1000000000, .root cPt true), (1000000001, .root cFent true), (1000000002, .root cVrow true), (1000000003, .root (.one (.int .i64)) true)]⟩,
    ⟨[], [(788480, .box [.dat (.int .i64), .dat .str, .own 1000000300, .own 1000000301, .own 1000000302, .own 1000000303, .dat (.int .i64), .dat (.int .i64), .dat (.int .i64), .dat (.int .i64), .dat (.int .i64)]), (1000000300, .root cPt true), (1000000301, .root cFent true), (1000000302, .root cVrow true), (1000000303, .root (.one (.int .i64)) true)]⟩, none⟩)]
theorem e_laws_FnVlans : fnDen ⟨tis, fns_17⟩ a_laws_FnVlans Try.f3 (codeOf Try.f3) [.val false (.one (.sl (.one (.int .u8)))) false] [.val false (.one .bool) true] = fun a => laws_FnVlans a := by kernel_rfl
theorem m_laws_FnVlans : Meets Try.prog 3 F_laws_FnVlans := by
  have h := meets_of (ann := a_laws_FnVlans) (ps := [.val false (.one (.sl (.one (.int .u8)))) false]) (rs := [.val false (.one .bool) true]) g_17 mixed Try.func3 (by kernel_rfl) (by kernel_rfl : Try.f3.body = some (codeOf Try.f3))
  rw [e_laws_FnVlans] at h
  exact h
noncomputable def fns_3 : List (FuncId × Fn) := (3, F_laws_FnVlans) :: fns_17
theorem g_3 : Good Try.prog ⟨tis, fns_3⟩ := g_17.cons m_laws_FnVlans
end Go.V.W
