/- The law FnBulks: part of the proof that for every input it returns true. No condition. -/
import Derived.Test.YtdhcmckfgnommaaGreatV4
import Derived.Test.YtdhcmckfgnommaaGreatProg
import Derived.Test.YtdhcmckfgnommaaGreatChecked
import Derived.KernelRfl
namespace Go.V.W
open Go.Proofs
set_option linter.unusedVariables false
@[reducible] def cL1Cur : Cs := .cons (.sl (.one (.int .u8))) (.cons (.int .i64) (.one (.int .i64)))
@[reducible] def cVrow : Cs := .cons (.int .i64) (.cons (.int .i64) (.one (.int .i64)))
@[reducible] def cVtab : Cs := .cons (.sl cVrow) (.one (.sl (.one (.int .i64))))
@[reducible] def cVec : Cs := .cons (.int .i64) (.cons (.int .i64) (.cons (.int .i64) (.cons (.int .i64) (.one (.int .i64)))))
@[reducible] def cPt : Cs := .cons .bool (.cons (.int .i64) (.cons .bool (.cons (.int .i64) (.cons (.int .i64) (.cons (.int .i64) (.cons (.int .i64) (.one (.int .i64))))))))
@[reducible] def cFent : Cs := .cons (.int .i64) (.cons (.int .i64) (.cons (.int .i64) (.cons (.int .i64) (.one .bool))))
@[reducible] def cBridge : Cs := .cons (.int .i64) (.cons .str (.cons (.sl cPt) (.cons (.sl cFent) (.cons (.sl cVrow) (.cons (.sl (.one (.int .i64))) (.cons (.int .i64) (.cons (.int .i64) (.cons (.int .i64) (.cons (.int .i64) (.one (.int .i64)))))))))))
@[reducible] def cVal : Cs := .cons (.int .i64) (.cons (.int .i64) (.cons .str (.one (.sl (.one (.int .i64))))))
@[reducible] def cBind : Cs := .cons (.sl (.one (.int .i64))) (.cons (.int .i64) (.cons (.int .i64) (.cons .str (.one (.sl (.one (.int .i64)))))))
@[reducible] def cPdu : Cs := .cons (.int .i64) (.cons (.int .i64) (.cons (.int .i64) (.cons (.int .i64) (.one (.sl cBind)))))
abbrev L1Cur : Type := List Int × Int × Int
abbrev Vrow : Type := Int × Int × Int
abbrev Vtab : Type := List Vrow × List Int
abbrev Vec : Type := Int × Int × Int × Int × Int
abbrev Pt : Type := Bool × Int × Bool × Int × Int × Int × Int × Int
abbrev Fent : Type := Int × Int × Int × Int × Bool
abbrev Bridge : Type := Int × List UInt8 × List Pt × List Fent × List Vrow × List Int × Int × Int × Int × Int × Int
abbrev Val : Type := Int × Int × List UInt8 × List Int
abbrev Bind : Type := List Int × Int × Int × List UInt8 × List Int
abbrev Pdu : Type := Int × Int × Int × Int × List Bind
def tis : List (Nat × TInfo) := [(2, ⟨false, .one (.int .i64), [], 0⟩),
  (3, ⟨false, .one (.int .i64), [], 0⟩),
  (4, ⟨false, .one .bool, [], 0⟩),
  (5, ⟨false, .one (.int .u8), [], 0⟩),
  (6, ⟨false, .one (.int .u8), [], 0⟩),
  (9, ⟨false, .one .str, [], 0⟩),
  (10, ⟨false, .one .str, [], 0⟩),
  (11, ⟨false, .one .str, [], 0⟩),
  (12, ⟨false, .one (.int .u64), [], 0⟩),
  (21, ⟨false, .one (.int .i32), [], 0⟩),
  (22, ⟨false, .one (.sl (.one (.int .u8))), [], 5⟩),
  (24, ⟨false, .one (.sl cPt), [], 141⟩),
  (25, ⟨false, .one (.sl cFent), [], 143⟩),
  (26, ⟨false, .one (.sl cVrow), [], 232⟩),
  (27, ⟨false, .one (.sl (.one (.int .i64))), [], 3⟩),
  (28, ⟨true, cVtab, [(26, 0), (27, 1)], 0⟩),
  (29, ⟨true, cVtab, [(26, 0), (27, 1)], 0⟩),
  (30, ⟨true, cBridge, [(3, 0), (9, 1), (24, 2), (25, 3), (29, 4), (3, 6), (3, 7), (3, 8), (3, 9), (3, 10)], 0⟩),
  (31, ⟨true, cBridge, [(3, 0), (9, 1), (24, 2), (25, 3), (29, 4), (3, 6), (3, 7), (3, 8), (3, 9), (3, 10)], 0⟩),
  (35, ⟨false, .one (.sl cBind), [], 43⟩),
  (36, ⟨true, cPdu, [(3, 0), (3, 1), (3, 2), (3, 3), (35, 4)], 0⟩),
  (37, ⟨true, cPdu, [(3, 0), (3, 1), (3, 2), (3, 3), (35, 4)], 0⟩),
  (40, ⟨true, cVal, [(3, 0), (3, 1), (9, 2), (27, 3)], 0⟩),
  (41, ⟨true, cVal, [(3, 0), (3, 1), (9, 2), (27, 3)], 0⟩),
  (42, ⟨true, cBind, [(27, 0), (41, 1)], 0⟩),
  (43, ⟨true, cBind, [(27, 0), (41, 1)], 0⟩),
  (65, ⟨false, .one (.sl (.cons (.int .i64) (.cons (.sl (.one (.int .u8))) (.cons (.int .i64) (.cons (.int .i64) (.cons (.int .i64) (.cons (.int .i64) (.cons (.int .i64) (.cons (.sl cBind) (.cons (.int .i64) (.cons .str (.cons (.sl cPt) (.cons (.sl cFent) (.cons (.sl cVrow) (.cons (.sl (.one (.int .i64))) (.cons (.int .i64) (.cons (.int .i64) (.cons (.int .i64) (.cons (.int .i64) (.cons (.int .i64) (.cons (.int .i64) (.one (.int .i64))))))))))))))))))))))), [], 72⟩),
  (66, ⟨true, .cons (.int .i64) (.cons .str (.cons (.sl cPt) (.cons (.sl cFent) (.cons (.sl cVrow) (.cons (.sl (.one (.int .i64))) (.cons (.int .i64) (.cons (.int .i64) (.cons (.int .i64) (.cons (.int .i64) (.cons (.int .i64) (.cons .str (.cons (.sl (.cons (.int .i64) (.cons (.sl (.one (.int .u8))) (.cons (.int .i64) (.cons (.int .i64) (.cons (.int .i64) (.cons (.int .i64) (.cons (.int .i64) (.cons (.sl cBind) (.cons (.int .i64) (.cons .str (.cons (.sl cPt) (.cons (.sl cFent) (.cons (.sl cVrow) (.cons (.sl (.one (.int .i64))) (.cons (.int .i64) (.cons (.int .i64) (.cons (.int .i64) (.cons (.int .i64) (.cons (.int .i64) (.cons (.int .i64) (.one (.int .i64))))))))))))))))))))))) (.cons (.int .i64) (.one (.int .i64))))))))))))))), [(31, 0), (9, 11), (65, 12), (3, 13), (3, 14)], 0⟩),
  (67, ⟨true, .cons (.int .i64) (.cons .str (.cons (.sl cPt) (.cons (.sl cFent) (.cons (.sl cVrow) (.cons (.sl (.one (.int .i64))) (.cons (.int .i64) (.cons (.int .i64) (.cons (.int .i64) (.cons (.int .i64) (.cons (.int .i64) (.cons .str (.cons (.sl (.cons (.int .i64) (.cons (.sl (.one (.int .u8))) (.cons (.int .i64) (.cons (.int .i64) (.cons (.int .i64) (.cons (.int .i64) (.cons (.int .i64) (.cons (.sl cBind) (.cons (.int .i64) (.cons .str (.cons (.sl cPt) (.cons (.sl cFent) (.cons (.sl cVrow) (.cons (.sl (.one (.int .i64))) (.cons (.int .i64) (.cons (.int .i64) (.cons (.int .i64) (.cons (.int .i64) (.cons (.int .i64) (.cons (.int .i64) (.one (.int .i64))))))))))))))))))))))) (.cons (.int .i64) (.one (.int .i64))))))))))))))), [(31, 0), (9, 11), (65, 12), (3, 13), (3, 14)], 0⟩),
  (71, ⟨true, .cons (.int .i64) (.cons (.sl (.one (.int .u8))) (.cons (.int .i64) (.cons (.int .i64) (.cons (.int .i64) (.cons (.int .i64) (.cons (.int .i64) (.cons (.sl cBind) (.cons (.int .i64) (.cons .str (.cons (.sl cPt) (.cons (.sl cFent) (.cons (.sl cVrow) (.cons (.sl (.one (.int .i64))) (.cons (.int .i64) (.cons (.int .i64) (.cons (.int .i64) (.cons (.int .i64) (.cons (.int .i64) (.cons (.int .i64) (.one (.int .i64))))))))))))))))))))), [(3, 0), (22, 1), (3, 2), (37, 3), (31, 8), (3, 19), (3, 20)], 0⟩),
  (72, ⟨true, .cons (.int .i64) (.cons (.sl (.one (.int .u8))) (.cons (.int .i64) (.cons (.int .i64) (.cons (.int .i64) (.cons (.int .i64) (.cons (.int .i64) (.cons (.sl cBind) (.cons (.int .i64) (.cons .str (.cons (.sl cPt) (.cons (.sl cFent) (.cons (.sl cVrow) (.cons (.sl (.one (.int .i64))) (.cons (.int .i64) (.cons (.int .i64) (.cons (.int .i64) (.cons (.int .i64) (.cons (.int .i64) (.cons (.int .i64) (.one (.int .i64))))))))))))))))))))), [(3, 0), (22, 1), (3, 2), (37, 3), (31, 8), (3, 19), (3, 20)], 0⟩),
  (74, ⟨false, .one (.sl (.cons (.int .i64) (.cons (.int .i64) (.cons (.int .i64) (.cons (.int .i64) (.cons (.int .i64) (.one (.sl cBind)))))))), [], 78⟩),
  (77, ⟨true, .cons (.int .i64) (.cons (.int .i64) (.cons (.int .i64) (.cons (.int .i64) (.cons (.int .i64) (.one (.sl cBind)))))), [(3, 0), (37, 1)], 0⟩),
  (78, ⟨true, .cons (.int .i64) (.cons (.int .i64) (.cons (.int .i64) (.cons (.int .i64) (.cons (.int .i64) (.one (.sl cBind)))))), [(3, 0), (37, 1)], 0⟩),
  (79, ⟨false, .one (.sl cPt), [], 261⟩),
  (80, ⟨false, .one (.sl cFent), [], 263⟩),
  (81, ⟨false, .one (.sl cVrow), [], 326⟩),
  (82, ⟨true, cVtab, [(81, 0), (27, 1)], 0⟩),
  (83, ⟨true, cVtab, [(81, 0), (27, 1)], 0⟩),
  (84, ⟨true, cBridge, [(3, 0), (9, 1), (79, 2), (80, 3), (83, 4), (3, 6), (3, 7), (3, 8), (3, 9), (3, 10)], 0⟩),
  (85, ⟨true, cBridge, [(3, 0), (9, 1), (79, 2), (80, 3), (83, 4), (3, 6), (3, 7), (3, 8), (3, 9), (3, 10)], 0⟩),
  (86, ⟨false, .one (.sl cBind), [], 166⟩),
  (95, ⟨false, .one (.sl cBridge), [], 85⟩),
  (96, ⟨false, .one (.sl (.cons (.int .i64) (.cons (.int .i64) (.cons (.int .i64) (.one (.int .i64)))))), [], 272⟩),
  (97, ⟨false, .one (.sl (.cons (.int .i64) (.cons .bool (.cons (.int .i64) (.cons (.int .i64) (.cons (.int .i64) (.cons (.int .i64) (.one (.int .i64))))))))), [], 275⟩),
  (98, ⟨true, .cons (.sl cBridge) (.cons (.sl (.cons (.int .i64) (.cons (.int .i64) (.cons (.int .i64) (.one (.int .i64)))))) (.one (.sl (.cons (.int .i64) (.cons .bool (.cons (.int .i64) (.cons (.int .i64) (.cons (.int .i64) (.cons (.int .i64) (.one (.int .i64))))))))))), [(95, 0), (96, 1), (97, 2)], 0⟩),
  (99, ⟨true, .cons (.sl cBridge) (.cons (.sl (.cons (.int .i64) (.cons (.int .i64) (.cons (.int .i64) (.one (.int .i64)))))) (.one (.sl (.cons (.int .i64) (.cons .bool (.cons (.int .i64) (.cons (.int .i64) (.cons (.int .i64) (.cons (.int .i64) (.one (.int .i64))))))))))), [(95, 0), (96, 1), (97, 2)], 0⟩),
  (102, ⟨false, .one (.sl cBridge), [], 31⟩),
  (103, ⟨false, .one (.sl (.cons (.int .i64) (.cons (.int .i64) (.cons (.int .i64) (.one (.int .i64)))))), [], 202⟩),
  (104, ⟨false, .one (.sl (.cons (.int .i64) (.cons .bool (.cons (.int .i64) (.cons (.int .i64) (.cons (.int .i64) (.cons (.int .i64) (.one (.int .i64))))))))), [], 199⟩),
  (105, ⟨true, .cons (.sl cBridge) (.cons (.sl (.cons (.int .i64) (.cons (.int .i64) (.cons (.int .i64) (.one (.int .i64)))))) (.one (.sl (.cons (.int .i64) (.cons .bool (.cons (.int .i64) (.cons (.int .i64) (.cons (.int .i64) (.cons (.int .i64) (.one (.int .i64))))))))))), [(102, 0), (103, 1), (104, 2)], 0⟩),
  (106, ⟨true, .cons (.sl cBridge) (.cons (.sl (.cons (.int .i64) (.cons (.int .i64) (.cons (.int .i64) (.one (.int .i64)))))) (.one (.sl (.cons (.int .i64) (.cons .bool (.cons (.int .i64) (.cons (.int .i64) (.cons (.int .i64) (.cons (.int .i64) (.one (.int .i64))))))))))), [(102, 0), (103, 1), (104, 2)], 0⟩),
  (110, ⟨false, .one (.sl (.cons (.int .i64) (.cons (.sl (.one (.int .u8))) (.cons (.int .i64) (.cons (.int .i64) (.cons (.int .i64) (.cons (.int .i64) (.cons (.int .i64) (.cons (.sl cBind) (.cons (.int .i64) (.cons .str (.cons (.sl cPt) (.cons (.sl cFent) (.cons (.sl cVrow) (.cons (.sl (.one (.int .i64))) (.cons (.int .i64) (.cons (.int .i64) (.cons (.int .i64) (.cons (.int .i64) (.cons (.int .i64) (.cons (.int .i64) (.one (.int .i64))))))))))))))))))))))), [], 282⟩),
  (111, ⟨true, .cons (.int .i64) (.cons .str (.cons (.sl cPt) (.cons (.sl cFent) (.cons (.sl cVrow) (.cons (.sl (.one (.int .i64))) (.cons (.int .i64) (.cons (.int .i64) (.cons (.int .i64) (.cons (.int .i64) (.cons (.int .i64) (.cons .str (.cons (.sl (.cons (.int .i64) (.cons (.sl (.one (.int .u8))) (.cons (.int .i64) (.cons (.int .i64) (.cons (.int .i64) (.cons (.int .i64) (.cons (.int .i64) (.cons (.sl cBind) (.cons (.int .i64) (.cons .str (.cons (.sl cPt) (.cons (.sl cFent) (.cons (.sl cVrow) (.cons (.sl (.one (.int .i64))) (.cons (.int .i64) (.cons (.int .i64) (.cons (.int .i64) (.cons (.int .i64) (.cons (.int .i64) (.cons (.int .i64) (.one (.int .i64))))))))))))))))))))))) (.cons (.int .i64) (.one (.int .i64))))))))))))))), [(85, 0), (9, 11), (110, 12), (3, 13), (3, 14)], 0⟩),
  (112, ⟨true, .cons (.int .i64) (.cons .str (.cons (.sl cPt) (.cons (.sl cFent) (.cons (.sl cVrow) (.cons (.sl (.one (.int .i64))) (.cons (.int .i64) (.cons (.int .i64) (.cons (.int .i64) (.cons (.int .i64) (.cons (.int .i64) (.cons .str (.cons (.sl (.cons (.int .i64) (.cons (.sl (.one (.int .u8))) (.cons (.int .i64) (.cons (.int .i64) (.cons (.int .i64) (.cons (.int .i64) (.cons (.int .i64) (.cons (.sl cBind) (.cons (.int .i64) (.cons .str (.cons (.sl cPt) (.cons (.sl cFent) (.cons (.sl cVrow) (.cons (.sl (.one (.int .i64))) (.cons (.int .i64) (.cons (.int .i64) (.cons (.int .i64) (.cons (.int .i64) (.cons (.int .i64) (.cons (.int .i64) (.one (.int .i64))))))))))))))))))))))) (.cons (.int .i64) (.one (.int .i64))))))))))))))), [(85, 0), (9, 11), (110, 12), (3, 13), (3, 14)], 0⟩),
  (138, ⟨true, cVec, [(3, 0), (3, 1), (3, 2), (3, 3), (3, 4)], 0⟩),
  (139, ⟨true, cVec, [(3, 0), (3, 1), (3, 2), (3, 3), (3, 4)], 0⟩),
  (140, ⟨true, cPt, [(4, 0), (3, 1), (4, 2), (139, 3)], 0⟩),
  (141, ⟨true, cPt, [(4, 0), (3, 1), (4, 2), (139, 3)], 0⟩),
  (142, ⟨true, cFent, [(3, 0), (3, 1), (3, 2), (3, 3), (4, 4)], 0⟩),
  (143, ⟨true, cFent, [(3, 0), (3, 1), (3, 2), (3, 3), (4, 4)], 0⟩),
  (164, ⟨true, cVal, [(3, 0), (3, 1), (9, 2), (27, 3)], 0⟩),
  (165, ⟨true, cBind, [(27, 0), (164, 1)], 0⟩),
  (166, ⟨true, cBind, [(27, 0), (164, 1)], 0⟩),
  (198, ⟨true, .cons (.int .i64) (.cons .bool (.cons (.int .i64) (.cons (.int .i64) (.cons (.int .i64) (.cons (.int .i64) (.one (.int .i64))))))), [(3, 0), (4, 1), (139, 2)], 0⟩),
  (199, ⟨true, .cons (.int .i64) (.cons .bool (.cons (.int .i64) (.cons (.int .i64) (.cons (.int .i64) (.cons (.int .i64) (.one (.int .i64))))))), [(3, 0), (4, 1), (139, 2)], 0⟩),
  (201, ⟨true, .cons (.int .i64) (.cons (.int .i64) (.cons (.int .i64) (.one (.int .i64)))), [(3, 0), (3, 1), (3, 2), (3, 3)], 0⟩),
  (202, ⟨true, .cons (.int .i64) (.cons (.int .i64) (.cons (.int .i64) (.one (.int .i64)))), [(3, 0), (3, 1), (3, 2), (3, 3)], 0⟩),
  (210, ⟨true, cL1Cur, [(22, 0), (3, 1), (3, 2)], 0⟩),
  (211, ⟨true, cL1Cur, [(22, 0), (3, 1), (3, 2)], 0⟩),
  (214, ⟨false, .one (.sl (.one .str)), [], 9⟩),
  (226, ⟨false, .one (.sl (.one (.sl (.one (.int .i64))))), [], 27⟩),
  (231, ⟨true, cVrow, [(3, 0), (3, 1), (3, 2)], 0⟩),
  (232, ⟨true, cVrow, [(3, 0), (3, 1), (3, 2)], 0⟩),
  (242, ⟨false, .one (.int .u64), [], 0⟩),
  (259, ⟨true, cVec, [(3, 0), (3, 1), (3, 2), (3, 3), (3, 4)], 0⟩),
  (260, ⟨true, cPt, [(4, 0), (3, 1), (4, 2), (259, 3)], 0⟩),
  (261, ⟨true, cPt, [(4, 0), (3, 1), (4, 2), (259, 3)], 0⟩),
  (263, ⟨true, cFent, [(3, 0), (3, 1), (3, 2), (3, 3), (4, 4)], 0⟩),
  (272, ⟨true, .cons (.int .i64) (.cons (.int .i64) (.cons (.int .i64) (.one (.int .i64)))), [(3, 0), (3, 1), (3, 2), (3, 3)], 0⟩),
  (274, ⟨true, .cons (.int .i64) (.cons .bool (.cons (.int .i64) (.cons (.int .i64) (.cons (.int .i64) (.cons (.int .i64) (.one (.int .i64))))))), [(3, 0), (4, 1), (259, 2)], 0⟩),
  (275, ⟨true, .cons (.int .i64) (.cons .bool (.cons (.int .i64) (.cons (.int .i64) (.cons (.int .i64) (.cons (.int .i64) (.one (.int .i64))))))), [(3, 0), (4, 1), (259, 2)], 0⟩),
  (279, ⟨true, cPdu, [(3, 0), (3, 1), (3, 2), (3, 3), (86, 4)], 0⟩),
  (280, ⟨true, cPdu, [(3, 0), (3, 1), (3, 2), (3, 3), (86, 4)], 0⟩),
  (281, ⟨true, .cons (.int .i64) (.cons (.sl (.one (.int .u8))) (.cons (.int .i64) (.cons (.int .i64) (.cons (.int .i64) (.cons (.int .i64) (.cons (.int .i64) (.cons (.sl cBind) (.cons (.int .i64) (.cons .str (.cons (.sl cPt) (.cons (.sl cFent) (.cons (.sl cVrow) (.cons (.sl (.one (.int .i64))) (.cons (.int .i64) (.cons (.int .i64) (.cons (.int .i64) (.cons (.int .i64) (.cons (.int .i64) (.cons (.int .i64) (.one (.int .i64))))))))))))))))))))), [(3, 0), (22, 1), (3, 2), (280, 3), (85, 8), (3, 19), (3, 20)], 0⟩),
  (282, ⟨true, .cons (.int .i64) (.cons (.sl (.one (.int .u8))) (.cons (.int .i64) (.cons (.int .i64) (.cons (.int .i64) (.cons (.int .i64) (.cons (.int .i64) (.cons (.sl cBind) (.cons (.int .i64) (.cons .str (.cons (.sl cPt) (.cons (.sl cFent) (.cons (.sl cVrow) (.cons (.sl (.one (.int .i64))) (.cons (.int .i64) (.cons (.int .i64) (.cons (.int .i64) (.cons (.int .i64) (.cons (.int .i64) (.cons (.int .i64) (.one (.int .i64))))))))))))))))))))), [(3, 0), (22, 1), (3, 2), (280, 3), (85, 8), (3, 19), (3, 20)], 0⟩),
  (287, ⟨true, .cons (.sl (.one (.int .u8))) (.cons (.int .i64) (.one .bool)), [(22, 0), (3, 1), (4, 2)], 0⟩),
  (288, ⟨true, .cons (.sl (.one (.int .u8))) (.cons (.int .i64) (.one .bool)), [(22, 0), (3, 1), (4, 2)], 0⟩),
  (299, ⟨false, .one (.sl (.one .bool)), [], 4⟩),
  (326, ⟨true, cVrow, [(3, 0), (3, 1), (3, 2)], 0⟩),
  (337, ⟨true, .cons (.sl (.one (.int .u8))) (.cons (.int .i64) (.one .bool)), [(22, 0), (3, 1), (4, 2)], 0⟩),
  (338, ⟨true, .cons (.sl (.one (.int .u8))) (.cons (.int .i64) (.one .bool)), [(22, 0), (3, 1), (4, 2)], 0⟩),
  (345, ⟨true, .cons (.int .i64) (.one (.int .i64)), [(3, 0), (3, 1)], 0⟩),
  (346, ⟨true, .cons (.int .i64) (.one (.int .i64)), [(3, 0), (3, 1)], 0⟩),
  (364, ⟨false, .one (.int .i8), [], 0⟩),
  (374, ⟨false, .one (.int .u32), [], 0⟩),
  (375, ⟨false, .one (.int .u8), [], 0⟩),
  (376, ⟨false, .one (.int .u8), [], 0⟩),
  (379, ⟨false, .one (.int .i32), [], 0⟩),
  (380, ⟨false, .one (.int .i32), [], 0⟩)]
theorem tisT : Tis Tryz.prog tis := Tis.of_all (by kernel_rfl)
theorem tisE : Eqs Tryz.prog tis := Eqs.of_all (by kernel_rfl)
theorem tisD : Deep Tryz.prog tis := Deep.of_all (by kernel_rfl)
theorem mixed : Tryz.prog.follows .mixedOrders = true := by kernel_rfl
def codeOf (fn : Func) : Code := match fn.body with | some c => c | none => .skip
theorem g_0 : Good Tryz.prog ⟨tis, [], [], false⟩ := ⟨tisT, tisE, (fun f F h => by cases h), (fun f M h => by cases h), (fun h => by cases h)⟩
noncomputable def laws_big (code0 : List Int) : Option Bool :=
  let t2 := decide ((code0.length : Int) > 1048576)
  some t2
noncomputable def F_laws_big : Fn := ⟨[.val false (.one (.sl (.one (.int .u8)))) false], [.val false (.one .bool) true], fun a => laws_big a⟩
def a_laws_big : List (Nat × LoopAnn) := []
theorem e_laws_big : fnDen ⟨tis, [], [], false⟩ a_laws_big Tryz.f13 (codeOf Tryz.f13) [.val false (.one (.sl (.one (.int .u8)))) false] [.val false (.one .bool) true] = fun a => laws_big a := by kernel_rfl
theorem m_laws_big : Meets Tryz.prog 13 F_laws_big := by
  have h := meets_of (ann := a_laws_big) (ps := [.val false (.one (.sl (.one (.int .u8)))) false]) (rs := [.val false (.one .bool) true]) g_0 mixed Tryz.func13 (by kernel_rfl) (by kernel_rfl : Tryz.f13.body = some (codeOf Tryz.f13))
  rw [e_laws_big] at h
  exact h
noncomputable def fns_13 : List (FuncId × Fn) := (13, F_laws_big) :: []
theorem g_13 : Good Tryz.prog ⟨tis, fns_13, [], false⟩ := g_0.cons m_laws_big
noncomputable def spec_l1New_l0 (code0 : List Int) (h3_1 : Int) (i4 : Int) : Option ((Int × Int) ⊕ Int) :=
  (cond (decide (i4 < (code0.length : Int))) (some (decide (i4 < 4000))) (some false)).bind fun t15 =>
  cond t15
    ((at? code0 i4).bind fun x22 =>
    let h3_2 := band .i64 (w64 ((w64 ((w64 (h3_1 * 137)) + (w64 (x22)))) + 11)) 1073741823
    some (.inl (h3_2, w64 (i4 + 1))))
    (some (.inr h3_1))
noncomputable def spec_l1New (code0 : List Int) : Option L1Cur :=
  let h3 := w64 (762762 + (code0.length : Int))
  (loop (fun z => spec_l1New_l0 code0 z.1 z.2) (h3, 0)).bind fun d =>
  some (code0, 0, d)
noncomputable def F_spec_l1New : Fn := ⟨[.val false (.one (.sl (.one (.int .u8)))) false], [.ptr cL1Cur false], fun a => spec_l1New a⟩
def a_spec_l1New : List (Nat × LoopAnn) := [(0, ⟨⟨[(3, false, [.dat (.int .i64)]), (4, false, [.dat (.int .i64)]), (13, false, [.undef]), (14, false, [.undef])], []⟩,
    ⟨[(3, false, [.dat (.int .i64)])], []⟩, none⟩)]
theorem e_spec_l1New : fnDen ⟨tis, fns_13, [], false⟩ a_spec_l1New Tryz.f77 (codeOf Tryz.f77) [.val false (.one (.sl (.one (.int .u8)))) false] [.ptr cL1Cur false] = fun a => spec_l1New a := by kernel_rfl
theorem m_spec_l1New : Meets Tryz.prog 77 F_spec_l1New := by
  have h := meets_of (ann := a_spec_l1New) (ps := [.val false (.one (.sl (.one (.int .u8)))) false]) (rs := [.ptr cL1Cur false]) g_13 mixed Tryz.func77 (by kernel_rfl) (by kernel_rfl : Tryz.f77.body = some (codeOf Tryz.f77))
  rw [e_spec_l1New] at h
  exact h
noncomputable def fns_77 : List (FuncId × Fn) := (77, F_spec_l1New) :: fns_13
theorem g_77 : Good Tryz.prog ⟨tis, fns_77, [], false⟩ := g_13.cons m_spec_l1New
noncomputable def spec_l1Byte (c0 : L1Cur) : Option (L1Cur × Int) :=
  let x3 := band .i64 (bxor .i64 ((w64 ((w64 (c0.2.2 * 6364136223846793005)) + 1442695040888963407)).fdiv (2 ^ 33)) ((w64 ((w64 (c0.2.2 * 6364136223846793005)) + 1442695040888963407)).fdiv (2 ^ 47))) 255
  cond (decide (c0.2.1 < (c0.1.length : Int)))
    ((at? c0.1 c0.2.1).bind fun x44 =>
    let x3_1 := band .i64 (w64 (x3 + (w64 (x44)))) 255
    some ((c0.1, w64 (c0.2.1 + 1), w64 ((w64 (c0.2.2 * 6364136223846793005)) + 1442695040888963407)), x3_1))
    (some ((c0.1, c0.2.1, w64 ((w64 (c0.2.2 * 6364136223846793005)) + 1442695040888963407)), x3))
noncomputable def F_spec_l1Byte : Fn := ⟨[.ptr cL1Cur false], [.val false (.one (.int .i64)) true], fun a => spec_l1Byte a⟩
def a_spec_l1Byte : List (Nat × LoopAnn) := []
theorem e_spec_l1Byte : fnDen ⟨tis, fns_77, [], false⟩ a_spec_l1Byte Tryz.f231 (codeOf Tryz.f231) [.ptr cL1Cur false] [.val false (.one (.int .i64)) true] = fun a => spec_l1Byte a := by kernel_rfl
theorem m_spec_l1Byte : Meets Tryz.prog 231 F_spec_l1Byte := by
  have h := meets_of (ann := a_spec_l1Byte) (ps := [.ptr cL1Cur false]) (rs := [.val false (.one (.int .i64)) true]) g_77 mixed Tryz.func231 (by kernel_rfl) (by kernel_rfl : Tryz.f231.body = some (codeOf Tryz.f231))
  rw [e_spec_l1Byte] at h
  exact h
noncomputable def fns_231 : List (FuncId × Fn) := (231, F_spec_l1Byte) :: fns_77
theorem g_231 : Good Tryz.prog ⟨tis, fns_231, [], false⟩ := g_77.cons m_spec_l1Byte
noncomputable def spec_l1Below (c0 : L1Cur) (n1 : Int) : Option (L1Cur × Int) :=
  cond (decide (n1 ≤ 0))
    (some (c0, 0))
    (cond (decide (n1 ≤ 256))
      ((spec_l1Byte c0).bind fun t13 =>
      (rem t13.2 n1).bind fun t15 =>
      some (t13.1, t15))
      ((spec_l1Byte c0).bind fun t17 =>
      (spec_l1Byte t17.1).bind fun t19 =>
      (spec_l1Byte t19.1).bind fun t21 =>
      (rem (w64 ((w64 ((w64 (t17.2 * 65536)) + (w64 (t19.2 * 256)))) + t21.2)) n1).bind fun t30 =>
      some (t21.1, t30)))
noncomputable def F_spec_l1Below : Fn := ⟨[.ptr cL1Cur false, .val false (.one (.int .i64)) false], [.val false (.one (.int .i64)) true], fun a => spec_l1Below a.1 a.2⟩
def a_spec_l1Below : List (Nat × LoopAnn) := []
theorem e_spec_l1Below : fnDen ⟨tis, fns_231, [], false⟩ a_spec_l1Below Tryz.f107 (codeOf Tryz.f107) [.ptr cL1Cur false, .val false (.one (.int .i64)) false] [.val false (.one (.int .i64)) true] = fun a => spec_l1Below a.1 a.2 := by kernel_rfl
theorem m_spec_l1Below : Meets Tryz.prog 107 F_spec_l1Below := by
  have h := meets_of (ann := a_spec_l1Below) (ps := [.ptr cL1Cur false, .val false (.one (.int .i64)) false]) (rs := [.val false (.one (.int .i64)) true]) g_231 mixed Tryz.func107 (by kernel_rfl) (by kernel_rfl : Tryz.f107.body = some (codeOf Tryz.f107))
  rw [e_spec_l1Below] at h
  exact h
noncomputable def fns_107 : List (FuncId × Fn) := (107, F_spec_l1Below) :: fns_231
theorem g_107 : Good Tryz.prog ⟨tis, fns_107, [], false⟩ := g_231.cons m_spec_l1Below
noncomputable def spec_l1Once (c0 : L1Cur) (n1 : Int) : Option (L1Cur × Bool) :=
  (spec_l1Below c0 n1).bind fun t7 =>
  some (t7.1, t7.2 == 0)
noncomputable def F_spec_l1Once : Fn := ⟨[.ptr cL1Cur false, .val false (.one (.int .i64)) false], [.val false (.one .bool) true], fun a => spec_l1Once a.1 a.2⟩
def a_spec_l1Once : List (Nat × LoopAnn) := []
theorem e_spec_l1Once : fnDen ⟨tis, fns_107, [], false⟩ a_spec_l1Once Tryz.f103 (codeOf Tryz.f103) [.ptr cL1Cur false, .val false (.one (.int .i64)) false] [.val false (.one .bool) true] = fun a => spec_l1Once a.1 a.2 := by kernel_rfl
theorem m_spec_l1Once : Meets Tryz.prog 103 F_spec_l1Once := by
  have h := meets_of (ann := a_spec_l1Once) (ps := [.ptr cL1Cur false, .val false (.one (.int .i64)) false]) (rs := [.val false (.one .bool) true]) g_107 mixed Tryz.func103 (by kernel_rfl) (by kernel_rfl : Tryz.f103.body = some (codeOf Tryz.f103))
  rw [e_spec_l1Once] at h
  exact h
noncomputable def fns_103 : List (FuncId × Fn) := (103, F_spec_l1Once) :: fns_107
theorem g_103 : Good Tryz.prog ⟨tis, fns_103, [], false⟩ := g_107.cons m_spec_l1Once
noncomputable def spec_l1In (x0 : Int) (least1 : Int) (most2 : Int) : Option Bool :=
  (cond (decide (x0 ≥ least1)) (some (decide (x0 ≤ most2))) (some false)).bind fun t14 =>
  some t14
noncomputable def F_spec_l1In : Fn := ⟨[.val false (.one (.int .i64)) false, .val false (.one (.int .i64)) false, .val false (.one (.int .i64)) false], [.val false (.one .bool) true], fun a => spec_l1In a.1 a.2.1 a.2.2⟩
def a_spec_l1In : List (Nat × LoopAnn) := []
theorem e_spec_l1In : fnDen ⟨tis, fns_103, [], false⟩ a_spec_l1In Tryz.f150 (codeOf Tryz.f150) [.val false (.one (.int .i64)) false, .val false (.one (.int .i64)) false, .val false (.one (.int .i64)) false] [.val false (.one .bool) true] = fun a => spec_l1In a.1 a.2.1 a.2.2 := by kernel_rfl
theorem m_spec_l1In : Meets Tryz.prog 150 F_spec_l1In := by
  have h := meets_of (ann := a_spec_l1In) (ps := [.val false (.one (.int .i64)) false, .val false (.one (.int .i64)) false, .val false (.one (.int .i64)) false]) (rs := [.val false (.one .bool) true]) g_103 mixed Tryz.func150 (by kernel_rfl) (by kernel_rfl : Tryz.f150.body = some (codeOf Tryz.f150))
  rw [e_spec_l1In] at h
  exact h
noncomputable def fns_150 : List (FuncId × Fn) := (150, F_spec_l1In) :: fns_103
theorem g_150 : Good Tryz.prog ⟨tis, fns_150, [], false⟩ := g_103.cons m_spec_l1In
noncomputable def spec_VtabNew_l0 (ports0 : Int) (i5 : Int) (b1 : List Int) : Option ((Int × List Int) ⊕ (List Int)) :=
  cond (decide (i5 < ports0))
    ((app b1 ([1] : List Int)).bind fun zs27 =>
    some (.inl (w64 (i5 + 1), zs27)))
    (some (.inr b1))
noncomputable def spec_VtabNew (ports0 : Int) : Option Vtab :=
  (spec_l1In ports0 1 6).bind fun t7 =>
  cond (!t7)
    (some ([], []))
    ((shl .i64 1 (IntKind.u64.wrap (ports0))).bind fun t12 =>
    (loop (fun z => spec_VtabNew_l0 ports0 z.1 z.2) (0, [])).bind fun d =>
    some ([(1, w64 (t12 - 1), w64 (t12 - 1))], d))
noncomputable def F_spec_VtabNew : Fn := ⟨[.val false (.one (.int .i64)) false], [.val true cVtab true], fun a => spec_VtabNew a⟩
def a_spec_VtabNew : List (Nat × LoopAnn) := [(0, ⟨⟨[(5, false, [.dat (.int .i64)])], [(1054720, .box [.same 1052672, .own 1000000000]), (1000000000, .root (.one (.int .i64)) true)]⟩,
    ⟨[], [(1054720, .box [.same 1052672, .own 1000000300]), (1000000300, .root (.one (.int .i64)) true)]⟩, none⟩)]
theorem e_spec_VtabNew : fnDen ⟨tis, fns_150, [], false⟩ a_spec_VtabNew Tryz.f294 (codeOf Tryz.f294) [.val false (.one (.int .i64)) false] [.val true cVtab true] = fun a => spec_VtabNew a := by kernel_rfl
theorem m_spec_VtabNew : Meets Tryz.prog 294 F_spec_VtabNew := by
  have h := meets_of (ann := a_spec_VtabNew) (ps := [.val false (.one (.int .i64)) false]) (rs := [.val true cVtab true]) g_150 mixed Tryz.func294 (by kernel_rfl) (by kernel_rfl : Tryz.f294.body = some (codeOf Tryz.f294))
  rw [e_spec_VtabNew] at h
  exact h
noncomputable def fns_294 : List (FuncId × Fn) := (294, F_spec_VtabNew) :: fns_150
theorem g_294 : Good Tryz.prog ⟨tis, fns_294, [], false⟩ := g_150.cons m_spec_VtabNew
noncomputable def spec_BridgeNew_l0 (ports1 : Int) (i6 : Int) (b0 : Int) (b1 : List UInt8) (b6 : Int) (b7 : Int) (b8 : Int) (b9 : Int) (b10 : Int) (b2 : List Pt) (b3 : List Fent) : Option ((Int × Int × List UInt8 × Int × Int × Int × Int × Int × List Pt × List Fent) ⊕ (Int × List UInt8 × Int × Int × Int × Int × Int × List Pt × List Fent)) :=
  cond (decide (i6 < ports1))
    ((app b2 [(false, 1, false, 0, 0, 0, 0, 0)]).bind fun zs29 =>
    some (.inl (w64 (i6 + 1), b0, b1, b6, b7, b8, b9, b10, zs29, b3)))
    (some (.inr (b0, b1, b6, b7, b8, b9, b10, b2, b3)))
noncomputable def spec_BridgeNew (id0 : Int) (ports1 : Int) : Option Bridge :=
  (spec_l1In id0 1 99).bind fun t8 =>
  (cond (!t8)
    (some true)
    ((spec_l1In ports1 1 6).bind fun t12 =>
    some (!t12))).bind fun t14 =>
  cond t14
    (some (0, [], [], [], [], [], 0, 0, 0, 0, 0))
    ((spec_VtabNew ports1).bind fun t18 =>
    (loop (fun z => spec_BridgeNew_l0 ports1 z.1 z.2.1 z.2.2.1 z.2.2.2.1 z.2.2.2.2.1 z.2.2.2.2.2.1 z.2.2.2.2.2.2.1 z.2.2.2.2.2.2.2.1 z.2.2.2.2.2.2.2.2.1 z.2.2.2.2.2.2.2.2.2) (0, id0, [], 0, 0, 0, 0, 0, [], [])).bind fun d =>
    some (d.1, d.2.1, d.2.2.2.2.2.2.2.1, d.2.2.2.2.2.2.2.2, t18.1, t18.2, d.2.2.1, d.2.2.2.1, d.2.2.2.2.1, d.2.2.2.2.2.1, d.2.2.2.2.2.2.1))
noncomputable def F_spec_BridgeNew : Fn := ⟨[.val false (.one (.int .i64)) false, .val false (.one (.int .i64)) false], [.val true cBridge true], fun a => spec_BridgeNew a.1 a.2⟩
def a_spec_BridgeNew : List (Nat × LoopAnn) := [(0, ⟨⟨[(6, false, [.dat (.int .i64)])], [(791552, .box [.dat (.int .i64), .dat .str, .own 1000000000, .own 1000000001, .same 789504, .same 789505, .dat (.int .i64), .dat (.int .i64), .dat (.int .i64), .dat (.int .i64), .dat (.int .i64)]), (1000000000, .root cPt true), (1000000001, .root cFent true)]⟩,
    ⟨[], [(791552, .box [.dat (.int .i64), .dat .str, .own 1000000300, .own 1000000301, .same 789504, .same 789505, .dat (.int .i64), .dat (.int .i64), .dat (.int .i64), .dat (.int .i64), .dat (.int .i64)]), (1000000300, .root cPt true), (1000000301, .root cFent true)]⟩, none⟩)]
theorem e_spec_BridgeNew : fnDen ⟨tis, fns_294, [], false⟩ a_spec_BridgeNew Tryz.f181 (codeOf Tryz.f181) [.val false (.one (.int .i64)) false, .val false (.one (.int .i64)) false] [.val true cBridge true] = fun a => spec_BridgeNew a.1 a.2 := by kernel_rfl
theorem m_spec_BridgeNew : Meets Tryz.prog 181 F_spec_BridgeNew := by
  have h := meets_of (ann := a_spec_BridgeNew) (ps := [.val false (.one (.int .i64)) false, .val false (.one (.int .i64)) false]) (rs := [.val true cBridge true]) g_294 mixed Tryz.func181 (by kernel_rfl) (by kernel_rfl : Tryz.f181.body = some (codeOf Tryz.f181))
  rw [e_spec_BridgeNew] at h
  exact h
noncomputable def fns_181 : List (FuncId × Fn) := (181, F_spec_BridgeNew) :: fns_294
theorem g_181 : Good Tryz.prog ⟨tis, fns_181, [], false⟩ := g_294.cons m_spec_BridgeNew
noncomputable def spec_l1Str (c0 : L1Cur) (list1 : List (List UInt8)) : Option (L1Cur × List UInt8) :=
  (spec_l1Below c0 (list1.length : Int)).bind fun t9 =>
  (at? list1 t9.2).bind fun x10 =>
  some (t9.1, x10)
noncomputable def F_spec_l1Str : Fn := ⟨[.ptr cL1Cur false, .val false (.one (.sl (.one .str))) false], [.val false (.one .str) true], fun a => spec_l1Str a.1 a.2⟩
def a_spec_l1Str : List (Nat × LoopAnn) := []
theorem e_spec_l1Str : fnDen ⟨tis, fns_181, [], false⟩ a_spec_l1Str Tryz.f182 (codeOf Tryz.f182) [.ptr cL1Cur false, .val false (.one (.sl (.one .str))) false] [.val false (.one .str) true] = fun a => spec_l1Str a.1 a.2 := by kernel_rfl
theorem m_spec_l1Str : Meets Tryz.prog 182 F_spec_l1Str := by
  have h := meets_of (ann := a_spec_l1Str) (ps := [.ptr cL1Cur false, .val false (.one (.sl (.one .str))) false]) (rs := [.val false (.one .str) true]) g_181 mixed Tryz.func182 (by kernel_rfl) (by kernel_rfl : Tryz.f182.body = some (codeOf Tryz.f182))
  rw [e_spec_l1Str] at h
  exact h
noncomputable def fns_182 : List (FuncId × Fn) := (182, F_spec_l1Str) :: fns_181
theorem g_182 : Good Tryz.prog ⟨tis, fns_182, [], false⟩ := g_181.cons m_spec_l1Str
noncomputable def spec_l1Int (c0 : L1Cur) (list1 : List Int) : Option (L1Cur × Int) :=
  (spec_l1Below c0 (list1.length : Int)).bind fun t9 =>
  (at? list1 t9.2).bind fun x10 =>
  some (t9.1, x10)
noncomputable def F_spec_l1Int : Fn := ⟨[.ptr cL1Cur false, .val false (.one (.sl (.one (.int .i64)))) false], [.val false (.one (.int .i64)) true], fun a => spec_l1Int a.1 a.2⟩
def a_spec_l1Int : List (Nat × LoopAnn) := []
theorem e_spec_l1Int : fnDen ⟨tis, fns_182, [], false⟩ a_spec_l1Int Tryz.f188 (codeOf Tryz.f188) [.ptr cL1Cur false, .val false (.one (.sl (.one (.int .i64)))) false] [.val false (.one (.int .i64)) true] = fun a => spec_l1Int a.1 a.2 := by kernel_rfl
theorem m_spec_l1Int : Meets Tryz.prog 188 F_spec_l1Int := by
  have h := meets_of (ann := a_spec_l1Int) (ps := [.ptr cL1Cur false, .val false (.one (.sl (.one (.int .i64)))) false]) (rs := [.val false (.one (.int .i64)) true]) g_182 mixed Tryz.func188 (by kernel_rfl) (by kernel_rfl : Tryz.f188.body = some (codeOf Tryz.f188))
  rw [e_spec_l1Int] at h
  exact h
noncomputable def fns_188 : List (FuncId × Fn) := (188, F_spec_l1Int) :: fns_182
theorem g_188 : Good Tryz.prog ⟨tis, fns_188, [], false⟩ := g_182.cons m_spec_l1Int
noncomputable def spec_l7Draw (c0 : L1Cur) : Option (L1Cur × Vec) :=
  (spec_l1Below c0 5).bind fun t4 =>
  (spec_l1Int t4.1 ([0, 1, 2, 5, 10, 100] : List Int)).bind fun t8 =>
  (spec_l1Int t8.1 ([0, 1, 2, 9, 10] : List Int)).bind fun t11 =>
  (spec_l1Below t11.1 5).bind fun t13 =>
  (spec_l1Below t13.1 4).bind fun t16 =>
  some (t16.1, (w64 (1 + t4.2), t8.2, t11.2, w64 (1 + t13.2), t16.2))
noncomputable def F_spec_l7Draw : Fn := ⟨[.ptr cL1Cur false], [.val true cVec true], fun a => spec_l7Draw a⟩
def a_spec_l7Draw : List (Nat × LoopAnn) := []
theorem e_spec_l7Draw : fnDen ⟨tis, fns_188, [], false⟩ a_spec_l7Draw Tryz.f295 (codeOf Tryz.f295) [.ptr cL1Cur false] [.val true cVec true] = fun a => spec_l7Draw a := by kernel_rfl
theorem m_spec_l7Draw : Meets Tryz.prog 295 F_spec_l7Draw := by
  have h := meets_of (ann := a_spec_l7Draw) (ps := [.ptr cL1Cur false]) (rs := [.val true cVec true]) g_188 mixed Tryz.func295 (by kernel_rfl) (by kernel_rfl : Tryz.f295.body = some (codeOf Tryz.f295))
  rw [e_spec_l7Draw] at h
  exact h
noncomputable def fns_295 : List (FuncId × Fn) := (295, F_spec_l7Draw) :: fns_188
theorem g_295 : Good Tryz.prog ⟨tis, fns_295, [], false⟩ := g_188.cons m_spec_l7Draw
noncomputable def spec_l10Draw_l0 (n1 : Int) (i6 : Int) (b0 : List Int) (b1 : Int) (b2 : Int) (out5 : List Pt) : Option ((Int × List Int × Int × Int × List Pt) ⊕ (List Int × Int × Int × List Pt)) :=
  cond (decide (i6 < n1))
    ((spec_l1Once (b0, b1, b2) 4).bind fun t15 =>
    (spec_l1Int t15.1 ([1, 1, 2, 5, 10] : List Int)).bind fun t19 =>
    cond (!t15.2)
      ((spec_l1Once t19.1 4).bind fun t25 =>
      cond (!t25.2)
        ((spec_l7Draw t25.1).bind fun t30 =>
        (app out5 [(!t15.2, t19.2, true, t30.2.1, t30.2.2.1, t30.2.2.2.1, t30.2.2.2.2.1, t30.2.2.2.2.2)]).bind fun zs35 =>
        some (.inl (w64 (i6 + 1), t30.1.1, t30.1.2.1, t30.1.2.2, zs35)))
        ((app out5 [(!t15.2, t19.2, false, 0, 0, 0, 0, 0)]).bind fun zs35_1 =>
        some (.inl (w64 (i6 + 1), t25.1.1, t25.1.2.1, t25.1.2.2, zs35_1))))
      ((app out5 [(!t15.2, t19.2, false, 0, 0, 0, 0, 0)]).bind fun zs35_2 =>
      some (.inl (w64 (i6 + 1), t19.1.1, t19.1.2.1, t19.1.2.2, zs35_2))))
    (some (.inr (b0, b1, b2, out5)))
noncomputable def spec_l10Draw (c0 : L1Cur) (n1 : Int) : Option (L1Cur × List Pt) :=
  (loop (fun z => spec_l10Draw_l0 n1 z.1 z.2.1 z.2.2.1 z.2.2.2.1 z.2.2.2.2) (0, c0.1, c0.2.1, c0.2.2, ([] : List Pt))).bind fun d =>
  some ((d.1, d.2.1, d.2.2.1), d.2.2.2)
noncomputable def F_spec_l10Draw : Fn := ⟨[.ptr cL1Cur false, .val false (.one (.int .i64)) false], [.val false (.one (.sl cPt)) true], fun a => spec_l10Draw a.1 a.2⟩
def a_spec_l10Draw : List (Nat × LoopAnn) := [(0, ⟨⟨[(5, false, [.own 1000000000]), (6, false, [.dat (.int .i64)]), (24, false, [.undef]), (25, false, [.undef]), (26, false, [.undef])], [(1, .box [.dat (.sl (.one (.int .u8))), .dat (.int .i64), .dat (.int .i64)]), (1000000000, .root cPt true)]⟩,
    ⟨[(5, false, [.own 1000000300])], [(1, .box [.dat (.sl (.one (.int .u8))), .dat (.int .i64), .dat (.int .i64)]), (1000000300, .root cPt true)]⟩, none⟩)]
theorem e_spec_l10Draw : fnDen ⟨tis, fns_295, [], false⟩ a_spec_l10Draw Tryz.f183 (codeOf Tryz.f183) [.ptr cL1Cur false, .val false (.one (.int .i64)) false] [.val false (.one (.sl cPt)) true] = fun a => spec_l10Draw a.1 a.2 := by kernel_rfl
theorem m_spec_l10Draw : Meets Tryz.prog 183 F_spec_l10Draw := by
  have h := meets_of (ann := a_spec_l10Draw) (ps := [.ptr cL1Cur false, .val false (.one (.int .i64)) false]) (rs := [.val false (.one (.sl cPt)) true]) g_295 mixed Tryz.func183 (by kernel_rfl) (by kernel_rfl : Tryz.f183.body = some (codeOf Tryz.f183))
  rw [e_spec_l10Draw] at h
  exact h
noncomputable def fns_183 : List (FuncId × Fn) := (183, F_spec_l10Draw) :: fns_295
theorem g_183 : Good Tryz.prog ⟨tis, fns_183, [], false⟩ := g_295.cons m_spec_l10Draw
noncomputable def spec_RowAt_l0 (v0 : Vtab) (id1 : Int) (i5 : Int) : Option (Int ⊕ (Unit ⊕ Int)) :=
  cond (decide (i5 < (v0.1.length : Int)))
    ((at? v0.1 i5).bind fun x16 =>
    cond (x16.1 == id1) (some (.inr (.inr i5))) (some (.inl (w64 (i5 + 1)))))
    (some (.inr (.inl ())))
noncomputable def spec_RowAt (v0 : Vtab) (id1 : Int) : Option Int :=
  (loop (fun z => spec_RowAt_l0 v0 id1 z) 0).bind (Sum.elim (fun d =>
    some (-1)) (fun r => some r))
noncomputable def F_spec_RowAt : Fn := ⟨[.val true cVtab false, .val false (.one (.int .i64)) false], [.val false (.one (.int .i64)) true], fun a => spec_RowAt a.1 a.2⟩
def a_spec_RowAt : List (Nat × LoopAnn) := [(0, ⟨⟨[(5, false, [.dat (.int .i64)])], []⟩,
    ⟨[], []⟩, some ⟨[(4, false, [.dat (.int .i64)])], []⟩⟩)]
theorem e_spec_RowAt : fnDen ⟨tis, fns_183, [], false⟩ a_spec_RowAt Tryz.f220 (codeOf Tryz.f220) [.val true cVtab false, .val false (.one (.int .i64)) false] [.val false (.one (.int .i64)) true] = fun a => spec_RowAt a.1 a.2 := by kernel_rfl
theorem m_spec_RowAt : Meets Tryz.prog 220 F_spec_RowAt := by
  have h := meets_of (ann := a_spec_RowAt) (ps := [.val true cVtab false, .val false (.one (.int .i64)) false]) (rs := [.val false (.one (.int .i64)) true]) g_183 mixed Tryz.func220 (by kernel_rfl) (by kernel_rfl : Tryz.f220.body = some (codeOf Tryz.f220))
  rw [e_spec_RowAt] at h
  exact h
noncomputable def fns_220 : List (FuncId × Fn) := (220, F_spec_RowAt) :: fns_183
theorem g_220 : Good Tryz.prog ⟨tis, fns_220, [], false⟩ := g_183.cons m_spec_RowAt
noncomputable def spec_VtabOk_l0 (p0 : Vtab) (t27 : Int) (t6 : Int) : Option (Int ⊕ (Unit ⊕ Bool)) :=
  cond (decide (t6 < (p0.1.length : Int)))
    ((at? p0.1 t6).bind fun x39 =>
    (spec_l1In x39.1 1 99).bind fun t43 =>
    (cond (!t43)
      (some true)
      ((spec_l1In x39.2.1 0 (w64 (t27 - 1))).bind fun t49 =>
      some (!t49))).bind fun t51 =>
    (cond t51
      (some true)
      ((spec_l1In x39.2.2 0 (w64 (t27 - 1))).bind fun t56 =>
      some (!t56))).bind fun t58 =>
    (cond t58 (some true) (some ((band .i64 x39.2.2 x39.2.1) != x39.2.2))).bind fun t68 =>
    (cond t68
      (some true)
      ((cond (decide (t6 > 0))
        ((at? p0.1 (w64 (t6 - 1))).bind fun x77 =>
        some (decide (x77.1 ≥ x39.1)))
        (some false)).bind fun t83 =>
      some t83)).bind fun t84 =>
    cond t84 (some (.inr (.inr false))) (some (.inl (w64 (t6 + 1)))))
    (some (.inr (.inl ())))
noncomputable def spec_VtabOk_l2 (p0 : Vtab) (t8 : Int) : Option (Int ⊕ (Unit ⊕ Bool)) :=
  cond (decide (t8 < (p0.2.length : Int)))
    ((at? p0.2 t8).bind fun x96 =>
    (spec_RowAt p0 x96).bind fun t98 =>
    cond (decide (t98 < 0)) (some (.inr (.inr false))) (some (.inl (w64 (t8 + 1)))))
    (some (.inr (.inl ())))
noncomputable def spec_VtabOk (p0 : Vtab) (i1 : Int) : Option Bool :=
  (spec_l1In i1 1 6).bind fun t10 =>
  (cond (!t10) (some true) (some ((p0.2.length : Int) != i1))).bind fun t18 =>
  (cond t18 (some true) (some (decide ((p0.1.length : Int) > 6)))).bind fun t24 =>
  cond t24
    (some false)
    ((shl .i64 1 (IntKind.u64.wrap (i1))).bind fun t27 =>
    (loop (fun z => spec_VtabOk_l0 p0 t27 z) 0).bind (Sum.elim (fun d =>
      (loop (fun z => spec_VtabOk_l2 p0 z) 0).bind (Sum.elim (fun d_1 =>
        some true) (fun r => some r))) (fun r_1 => some r_1)))
noncomputable def F_spec_VtabOk : Fn := ⟨[.val true cVtab false, .val false (.one (.int .i64)) false], [.val false (.one .bool) true], fun a => spec_VtabOk a.1 a.2⟩
def a_spec_VtabOk : List (Nat × LoopAnn) := [(0, ⟨⟨[(6, false, [.dat (.int .i64)]), (46, false, [.undef]), (47, false, [.undef]), (48, false, [.undef]), (49, false, [.undef]), (50, false, [.undef]), (53, false, [.undef]), (54, false, [.undef]), (55, false, [.undef]), (56, false, [.undef]), (57, false, [.undef]), (60, false, [.undef]), (61, false, [.undef]), (62, false, [.undef]), (63, false, [.undef]), (64, false, [.undef]), (65, false, [.undef]), (66, false, [.undef]), (67, false, [.undef]), (70, false, [.undef]), (71, false, [.undef]), (72, false, [.undef]), (73, false, [.undef]), (74, false, [.undef]), (75, false, [.undef]), (76, false, [.undef]), (77, false, [.undef]), (78, false, [.undef]), (79, false, [.undef]), (80, false, [.undef]), (81, false, [.undef]), (82, false, [.undef]), (83, false, [.undef])], []⟩,
    ⟨[], []⟩, some ⟨[(4, false, [.dat .bool])], []⟩⟩),
  (2, ⟨⟨[(8, false, [.dat (.int .i64)])], []⟩,
    ⟨[], []⟩, some ⟨[(4, false, [.dat .bool])], []⟩⟩)]
theorem e_spec_VtabOk : fnDen ⟨tis, fns_220, [], false⟩ a_spec_VtabOk Tryz.f97 (codeOf Tryz.f97) [.val true cVtab false, .val false (.one (.int .i64)) false] [.val false (.one .bool) true] = fun a => spec_VtabOk a.1 a.2 := by kernel_rfl
theorem m_spec_VtabOk : Meets Tryz.prog 97 F_spec_VtabOk := by
  have h := meets_of (ann := a_spec_VtabOk) (ps := [.val true cVtab false, .val false (.one (.int .i64)) false]) (rs := [.val false (.one .bool) true]) g_220 mixed Tryz.func97 (by kernel_rfl) (by kernel_rfl : Tryz.f97.body = some (codeOf Tryz.f97))
  rw [e_spec_VtabOk] at h
  exact h
noncomputable def fns_97 : List (FuncId × Fn) := (97, F_spec_VtabOk) :: fns_220
theorem g_97 : Good Tryz.prog ⟨tis, fns_97, [], false⟩ := g_220.cons m_spec_VtabOk
noncomputable def spec_l9Copy (v0 : Vtab) : Option Vtab :=
  (app ([] : List Vrow) v0.1).bind fun zs6 =>
  (app ([] : List Int) v0.2).bind fun zs10 =>
  some (zs6, zs10)
noncomputable def F_spec_l9Copy : Fn := ⟨[.val true cVtab false], [.val true cVtab true], fun a => spec_l9Copy a⟩
def a_spec_l9Copy : List (Nat × LoopAnn) := []
theorem e_spec_l9Copy : fnDen ⟨tis, fns_97, [], false⟩ a_spec_l9Copy Tryz.f212 (codeOf Tryz.f212) [.val true cVtab false] [.val true cVtab true] = fun a => spec_l9Copy a := by kernel_rfl
theorem m_spec_l9Copy : Meets Tryz.prog 212 F_spec_l9Copy := by
  have h := meets_of (ann := a_spec_l9Copy) (ps := [.val true cVtab false]) (rs := [.val true cVtab true]) g_97 mixed Tryz.func212 (by kernel_rfl) (by kernel_rfl : Tryz.f212.body = some (codeOf Tryz.f212))
  rw [e_spec_l9Copy] at h
  exact h
noncomputable def fns_212 : List (FuncId × Fn) := (212, F_spec_l9Copy) :: fns_97
theorem g_212 : Good Tryz.prog ⟨tis, fns_212, [], false⟩ := g_97.cons m_spec_l9Copy
noncomputable def spec_l9Or (x0 : Vtab) (v1 : Vtab) : Option (Vtab × Bool) :=
  (spec_VtabOk x0 (v1.2.length : Int)).bind fun t10 =>
  cond (!t10)
    ((spec_l9Copy v1).bind fun t13 =>
    some (t13, false))
    (some (x0, true))
noncomputable def F_spec_l9Or : Fn := ⟨[.val true cVtab true, .val true cVtab false], [.val true cVtab true, .val false (.one .bool) true], fun a => spec_l9Or a.1 a.2⟩
def a_spec_l9Or : List (Nat × LoopAnn) := []
theorem e_spec_l9Or : fnDen ⟨tis, fns_212, [], false⟩ a_spec_l9Or Tryz.f352 (codeOf Tryz.f352) [.val true cVtab true, .val true cVtab false] [.val true cVtab true, .val false (.one .bool) true] = fun a => spec_l9Or a.1 a.2 := by kernel_rfl
theorem m_spec_l9Or : Meets Tryz.prog 352 F_spec_l9Or := by
  have h := meets_of (ann := a_spec_l9Or) (ps := [.val true cVtab true, .val true cVtab false]) (rs := [.val true cVtab true, .val false (.one .bool) true]) g_212 mixed Tryz.func352 (by kernel_rfl) (by kernel_rfl : Tryz.f352.body = some (codeOf Tryz.f352))
  rw [e_spec_l9Or] at h
  exact h
noncomputable def fns_352 : List (FuncId × Fn) := (352, F_spec_l9Or) :: fns_212
theorem g_352 : Good Tryz.prog ⟨tis, fns_352, [], false⟩ := g_212.cons m_spec_l9Or
noncomputable def spec_SetPvid (v0 : Vtab) (port1 : Int) (id2 : Int) : Option (Vtab × Bool) :=
  (spec_VtabOk v0 (v0.2.length : Int)).bind fun t13 =>
  (cond (!t13)
    (some true)
    ((spec_l1In port1 0 (w64 ((v0.2.length : Int) - 1))).bind fun t21 =>
    some (!t21))).bind fun t23 =>
  cond t23
    ((spec_l9Copy v0).bind fun t25 =>
    some (t25, false))
    ((spec_l9Copy v0).bind fun t27 =>
    (ix t27.2.length port1).bind fun j32 =>
    (t27.2[j32]?).bind fun x =>
    (spec_l9Or (t27.1, t27.2.set j32 id2) v0).bind fun t35 =>
    some t35)
noncomputable def F_spec_SetPvid : Fn := ⟨[.val true cVtab false, .val false (.one (.int .i64)) false, .val false (.one (.int .i64)) false], [.val true cVtab true, .val false (.one .bool) true], fun a => spec_SetPvid a.1 a.2.1 a.2.2⟩
def a_spec_SetPvid : List (Nat × LoopAnn) := []
theorem e_spec_SetPvid : fnDen ⟨tis, fns_352, [], false⟩ a_spec_SetPvid Tryz.f296 (codeOf Tryz.f296) [.val true cVtab false, .val false (.one (.int .i64)) false, .val false (.one (.int .i64)) false] [.val true cVtab true, .val false (.one .bool) true] = fun a => spec_SetPvid a.1 a.2.1 a.2.2 := by kernel_rfl
theorem m_spec_SetPvid : Meets Tryz.prog 296 F_spec_SetPvid := by
  have h := meets_of (ann := a_spec_SetPvid) (ps := [.val true cVtab false, .val false (.one (.int .i64)) false, .val false (.one (.int .i64)) false]) (rs := [.val true cVtab true, .val false (.one .bool) true]) g_352 mixed Tryz.func296 (by kernel_rfl) (by kernel_rfl : Tryz.f296.body = some (codeOf Tryz.f296))
  rw [e_spec_SetPvid] at h
  exact h
noncomputable def fns_296 : List (FuncId × Fn) := (296, F_spec_SetPvid) :: fns_352
theorem g_296 : Good Tryz.prog ⟨tis, fns_296, [], false⟩ := g_352.cons m_spec_SetPvid
noncomputable def spec_DropRow (v0 : Vtab) (id1 : Int) : Option (Vtab × Bool) :=
  (spec_RowAt v0 id1).bind fun t10 =>
  (spec_VtabOk v0 (v0.2.length : Int)).bind fun t15 =>
  (cond (!t15) (some true) (some (decide (t10 < 0)))).bind fun t20 =>
  cond t20
    ((spec_l9Copy v0).bind fun t22 =>
    some (t22, false))
    ((spec_l9Copy v0).bind fun t24 =>
    (cut v0.1 0 t10).bind fun t29 =>
    (app ([] : List Vrow) t29).bind fun zs30 =>
    (cut v0.1 (w64 (t10 + 1)) (v0.1.length : Int)).bind fun t35 =>
    (app zs30 t35).bind fun zs36 =>
    (spec_l9Or (zs36, t24.2) v0).bind fun t40 =>
    some t40)
noncomputable def F_spec_DropRow : Fn := ⟨[.val true cVtab false, .val false (.one (.int .i64)) false], [.val true cVtab true, .val false (.one .bool) true], fun a => spec_DropRow a.1 a.2⟩
def a_spec_DropRow : List (Nat × LoopAnn) := []
theorem e_spec_DropRow : fnDen ⟨tis, fns_296, [], false⟩ a_spec_DropRow Tryz.f297 (codeOf Tryz.f297) [.val true cVtab false, .val false (.one (.int .i64)) false] [.val true cVtab true, .val false (.one .bool) true] = fun a => spec_DropRow a.1 a.2 := by kernel_rfl
theorem m_spec_DropRow : Meets Tryz.prog 297 F_spec_DropRow := by
  have h := meets_of (ann := a_spec_DropRow) (ps := [.val true cVtab false, .val false (.one (.int .i64)) false]) (rs := [.val true cVtab true, .val false (.one .bool) true]) g_296 mixed Tryz.func297 (by kernel_rfl) (by kernel_rfl : Tryz.f297.body = some (codeOf Tryz.f297))
  rw [e_spec_DropRow] at h
  exact h
noncomputable def fns_297 : List (FuncId × Fn) := (297, F_spec_DropRow) :: fns_296
theorem g_297 : Good Tryz.prog ⟨tis, fns_297, [], false⟩ := g_296.cons m_spec_DropRow
noncomputable def spec_l9Row_l0 (p0 : Vtab) (i1 : Vrow) (t6 : Bool) (t7 : Int) (b0 : List Vrow) : Option ((Bool × Int × List Vrow) ⊕ (Bool × List Vrow)) :=
  cond (decide (t7 < (p0.1.length : Int)))
    ((cond (!t6)
      ((at? p0.1 t7).bind fun x26 =>
      some (decide (x26.1 ≥ i1.1)))
      (some false)).bind fun t32 =>
    cond t32
      ((app b0 [i1]).bind fun zs37 =>
      (at? p0.1 t7).bind fun x42 =>
      cond (x42.1 != i1.1)
        ((at? p0.1 t7).bind fun x53 =>
        (app zs37 [x53]).bind fun zs56 =>
        some (.inl (true, w64 (t7 + 1), zs56)))
        (some (.inl (true, w64 (t7 + 1), zs37))))
      ((at? p0.1 t7).bind fun x42_1 =>
      cond (x42_1.1 != i1.1)
        ((at? p0.1 t7).bind fun x53_1 =>
        (app b0 [x53_1]).bind fun zs56_1 =>
        some (.inl (t6, w64 (t7 + 1), zs56_1)))
        (some (.inl (t6, w64 (t7 + 1), b0)))))
    (some (.inr (t6, b0)))
noncomputable def spec_l9Row (p0 : Vtab) (i1 : Vrow) : Option Vtab :=
  (app ([] : List Int) p0.2).bind fun zs11 =>
  (loop (fun z => spec_l9Row_l0 p0 i1 z.1 z.2.1 z.2.2) (false, 0, [])).bind fun d =>
  cond (!d.1)
    ((app d.2 [i1]).bind fun zs64 =>
    some (zs64, zs11))
    (some (d.2, zs11))
noncomputable def F_spec_l9Row : Fn := ⟨[.val true cVtab false, .val true cVrow false], [.val true cVtab true], fun a => spec_l9Row a.1 a.2⟩
def a_spec_l9Row : List (Nat × LoopAnn) := [(0, ⟨⟨[(6, false, [.dat .bool]), (7, false, [.dat (.int .i64)]), (23, false, [.undef]), (24, false, [.undef]), (25, false, [.undef]), (26, false, [.undef]), (27, false, [.undef]), (28, false, [.undef]), (29, false, [.undef]), (30, false, [.undef]), (31, false, [.undef])], [(268288, .box [.own 1000000000, .same 266240]), (1000000000, .root cVrow true)]⟩,
    ⟨[(6, false, [.dat .bool])], [(268288, .box [.own 1000000300, .same 266240]), (1000000300, .root cVrow true)]⟩, none⟩)]
theorem e_spec_l9Row : fnDen ⟨tis, fns_297, [], false⟩ a_spec_l9Row Tryz.f313 (codeOf Tryz.f313) [.val true cVtab false, .val true cVrow false] [.val true cVtab true] = fun a => spec_l9Row a.1 a.2 := by kernel_rfl
theorem m_spec_l9Row : Meets Tryz.prog 313 F_spec_l9Row := by
  have h := meets_of (ann := a_spec_l9Row) (ps := [.val true cVtab false, .val true cVrow false]) (rs := [.val true cVtab true]) g_297 mixed Tryz.func313 (by kernel_rfl) (by kernel_rfl : Tryz.f313.body = some (codeOf Tryz.f313))
  rw [e_spec_l9Row] at h
  exact h
noncomputable def fns_313 : List (FuncId × Fn) := (313, F_spec_l9Row) :: fns_297
theorem g_313 : Good Tryz.prog ⟨tis, fns_313, [], false⟩ := g_297.cons m_spec_l9Row
noncomputable def spec_PutRow (v0 : Vtab) (r1 : Vrow) : Option (Vtab × Bool) :=
  (spec_VtabOk v0 (v0.2.length : Int)).bind fun t10 =>
  cond (!t10)
    ((spec_l9Copy v0).bind fun t13 =>
    some (t13, false))
    ((spec_l9Row v0 r1).bind fun t16 =>
    (spec_l9Or t16 v0).bind fun t18 =>
    some t18)
noncomputable def F_spec_PutRow : Fn := ⟨[.val true cVtab false, .val true cVrow false], [.val true cVtab true, .val false (.one .bool) true], fun a => spec_PutRow a.1 a.2⟩
def a_spec_PutRow : List (Nat × LoopAnn) := []
theorem e_spec_PutRow : fnDen ⟨tis, fns_313, [], false⟩ a_spec_PutRow Tryz.f298 (codeOf Tryz.f298) [.val true cVtab false, .val true cVrow false] [.val true cVtab true, .val false (.one .bool) true] = fun a => spec_PutRow a.1 a.2 := by kernel_rfl
theorem m_spec_PutRow : Meets Tryz.prog 298 F_spec_PutRow := by
  have h := meets_of (ann := a_spec_PutRow) (ps := [.val true cVtab false, .val true cVrow false]) (rs := [.val true cVtab true, .val false (.one .bool) true]) g_313 mixed Tryz.func298 (by kernel_rfl) (by kernel_rfl : Tryz.f298.body = some (codeOf Tryz.f298))
  rw [e_spec_PutRow] at h
  exact h
noncomputable def fns_298 : List (FuncId × Fn) := (298, F_spec_PutRow) :: fns_313
theorem g_298 : Good Tryz.prog ⟨tis, fns_298, [], false⟩ := g_313.cons m_spec_PutRow
noncomputable def spec_l9Row2 (c0 : L1Cur) (ports1 : Int) : Option (L1Cur × Vrow) :=
  (shl .i64 1 (IntKind.u64.wrap (ports1))).bind fun t9 =>
  (spec_l1Below c0 (w64 ((w64 (t9 - 1)) + 1))).bind fun t14 =>
  (spec_l1Int t14.1 ([1, 2, 3, 2] : List Int)).bind fun t17 =>
  (spec_l1Below t17.1 (w64 ((w64 (t9 - 1)) + 1))).bind fun t23 =>
  some (t23.1, (t17.2, t14.2, band .i64 t14.2 t23.2))
noncomputable def F_spec_l9Row2 : Fn := ⟨[.ptr cL1Cur false, .val false (.one (.int .i64)) false], [.val true cVrow true], fun a => spec_l9Row2 a.1 a.2⟩
def a_spec_l9Row2 : List (Nat × LoopAnn) := []
theorem e_spec_l9Row2 : fnDen ⟨tis, fns_298, [], false⟩ a_spec_l9Row2 Tryz.f299 (codeOf Tryz.f299) [.ptr cL1Cur false, .val false (.one (.int .i64)) false] [.val true cVrow true] = fun a => spec_l9Row2 a.1 a.2 := by kernel_rfl
theorem m_spec_l9Row2 : Meets Tryz.prog 299 F_spec_l9Row2 := by
  have h := meets_of (ann := a_spec_l9Row2) (ps := [.ptr cL1Cur false, .val false (.one (.int .i64)) false]) (rs := [.val true cVrow true]) g_298 mixed Tryz.func299 (by kernel_rfl) (by kernel_rfl : Tryz.f299.body = some (codeOf Tryz.f299))
  rw [e_spec_l9Row2] at h
  exact h
noncomputable def fns_299 : List (FuncId × Fn) := (299, F_spec_l9Row2) :: fns_298
theorem g_299 : Good Tryz.prog ⟨tis, fns_299, [], false⟩ := g_298.cons m_spec_l9Row2
noncomputable def spec_l9Draw_l0 (ports1 : Int) (i6 : Int) (b0 : List Int) (b1 : Int) (b2 : Int) (b0_1 : List Vrow) (b1_1 : List Int) : Option ((Int × List Int × Int × Int × List Vrow × List Int) ⊕ (List Int × Int × Int × List Vrow × List Int)) :=
  cond (decide (i6 > 0))
    ((spec_l1Below (b0, b1, b2) 4).bind fun t16 =>
    cond (t16.2 == 0)
      ((spec_l1Below t16.1 ports1).bind fun t31 =>
      (spec_l1Below t31.1 3).bind fun t33 =>
      (spec_SetPvid (b0_1, b1_1) t31.2 (w64 (1 + t33.2))).bind fun t35 =>
      some (.inl (w64 (i6 - 1), t33.1.1, t33.1.2.1, t33.1.2.2, t35.1.1, t35.1.2)))
      (cond (t16.2 == 1)
        ((spec_l1Below t16.1 2).bind fun t43 =>
        (spec_DropRow (b0_1, b1_1) (w64 (2 + t43.2))).bind fun t45 =>
        some (.inl (w64 (i6 - 1), t43.1.1, t43.1.2.1, t43.1.2.2, t45.1.1, t45.1.2)))
        ((spec_l9Row2 t16.1 ports1).bind fun t21 =>
        (spec_PutRow (b0_1, b1_1) t21.2).bind fun t22 =>
        some (.inl (w64 (i6 - 1), t21.1.1, t21.1.2.1, t21.1.2.2, t22.1.1, t22.1.2)))))
    (some (.inr (b0, b1, b2, b0_1, b1_1)))
noncomputable def spec_l9Draw (c0 : L1Cur) (ports1 : Int) : Option (L1Cur × Vtab) :=
  (spec_VtabNew ports1).bind fun t8 =>
  (spec_l1Below c0 6).bind fun t10 =>
  (loop (fun z => spec_l9Draw_l0 ports1 z.1 z.2.1 z.2.2.1 z.2.2.2.1 z.2.2.2.2.1 z.2.2.2.2.2) (t10.2, t10.1.1, t10.1.2.1, t10.1.2.2, t8.1, t8.2)).bind fun d =>
  some ((d.1, d.2.1, d.2.2.1), d.2.2.2)
noncomputable def F_spec_l9Draw : Fn := ⟨[.ptr cL1Cur false, .val false (.one (.int .i64)) false], [.val true cVtab true], fun a => spec_l9Draw a.1 a.2⟩
def a_spec_l9Draw : List (Nat × LoopAnn) := [(0, ⟨⟨[(6, false, [.dat (.int .i64)])], [(1, .box [.dat (.sl (.one (.int .u8))), .dat (.int .i64), .dat (.int .i64)]), (265216, .box [.own 1000000000, .own 1000000001]), (1000000000, .root cVrow true), (1000000001, .root (.one (.int .i64)) true)]⟩,
    ⟨[], [(1, .box [.dat (.sl (.one (.int .u8))), .dat (.int .i64), .dat (.int .i64)]), (265216, .box [.own 1000000300, .own 1000000301]), (1000000300, .root cVrow true), (1000000301, .root (.one (.int .i64)) true)]⟩, none⟩)]
theorem e_spec_l9Draw : fnDen ⟨tis, fns_299, [], false⟩ a_spec_l9Draw Tryz.f184 (codeOf Tryz.f184) [.ptr cL1Cur false, .val false (.one (.int .i64)) false] [.val true cVtab true] = fun a => spec_l9Draw a.1 a.2 := by kernel_rfl
theorem m_spec_l9Draw : Meets Tryz.prog 184 F_spec_l9Draw := by
  have h := meets_of (ann := a_spec_l9Draw) (ps := [.ptr cL1Cur false, .val false (.one (.int .i64)) false]) (rs := [.val true cVtab true]) g_299 mixed Tryz.func184 (by kernel_rfl) (by kernel_rfl : Tryz.f184.body = some (codeOf Tryz.f184))
  rw [e_spec_l9Draw] at h
  exact h
noncomputable def fns_184 : List (FuncId × Fn) := (184, F_spec_l9Draw) :: fns_299
theorem g_184 : Good Tryz.prog ⟨tis, fns_184, [], false⟩ := g_299.cons m_spec_l9Draw
noncomputable def spec_l8Copy (l0 : List Fent) : Option (List Fent) :=
  (app ([] : List Fent) l0).bind fun zs5 =>
  some zs5
noncomputable def F_spec_l8Copy : Fn := ⟨[.val false (.one (.sl cFent)) false], [.val false (.one (.sl cFent)) true], fun a => spec_l8Copy a⟩
def a_spec_l8Copy : List (Nat × LoopAnn) := []
theorem e_spec_l8Copy : fnDen ⟨tis, fns_184, [], false⟩ a_spec_l8Copy Tryz.f211 (codeOf Tryz.f211) [.val false (.one (.sl cFent)) false] [.val false (.one (.sl cFent)) true] = fun a => spec_l8Copy a := by kernel_rfl
theorem m_spec_l8Copy : Meets Tryz.prog 211 F_spec_l8Copy := by
  have h := meets_of (ann := a_spec_l8Copy) (ps := [.val false (.one (.sl cFent)) false]) (rs := [.val false (.one (.sl cFent)) true]) g_184 mixed Tryz.func211 (by kernel_rfl) (by kernel_rfl : Tryz.f211.body = some (codeOf Tryz.f211))
  rw [e_spec_l8Copy] at h
  exact h
noncomputable def fns_211 : List (FuncId × Fn) := (211, F_spec_l8Copy) :: fns_184
theorem g_211 : Good Tryz.prog ⟨tis, fns_211, [], false⟩ := g_184.cons m_spec_l8Copy
noncomputable def spec_l8Ent (e0 : Fent) : Option Bool :=
  (spec_l1In e0.1 1 99).bind fun t5 =>
  (cond t5
    ((spec_l1In e0.2.1 1 9999).bind fun t9 =>
    some t9)
    (some false)).bind fun t10 =>
  (cond t10
    ((spec_l1In e0.2.2.1 0 7).bind fun t14 =>
    some t14)
    (some false)).bind fun t15 =>
  (cond t15
    ((spec_l1In e0.2.2.2.1 0 4).bind fun t19 =>
    some t19)
    (some false)).bind fun t20 =>
  (cond t20
    ((cond (!e0.2.2.2.2) (some true) (some (e0.2.2.2.1 == 0))).bind fun t29 =>
    some t29)
    (some false)).bind fun t30 =>
  some t30
noncomputable def F_spec_l8Ent : Fn := ⟨[.val true cFent false], [.val false (.one .bool) true], fun a => spec_l8Ent a⟩
def a_spec_l8Ent : List (Nat × LoopAnn) := []
theorem e_spec_l8Ent : fnDen ⟨tis, fns_211, [], false⟩ a_spec_l8Ent Tryz.f301 (codeOf Tryz.f301) [.val true cFent false] [.val false (.one .bool) true] = fun a => spec_l8Ent a := by kernel_rfl
theorem m_spec_l8Ent : Meets Tryz.prog 301 F_spec_l8Ent := by
  have h := meets_of (ann := a_spec_l8Ent) (ps := [.val true cFent false]) (rs := [.val false (.one .bool) true]) g_211 mixed Tryz.func301 (by kernel_rfl) (by kernel_rfl : Tryz.f301.body = some (codeOf Tryz.f301))
  rw [e_spec_l8Ent] at h
  exact h
noncomputable def fns_301 : List (FuncId × Fn) := (301, F_spec_l8Ent) :: fns_211
theorem g_301 : Good Tryz.prog ⟨tis, fns_301, [], false⟩ := g_211.cons m_spec_l8Ent
noncomputable def spec_l8Ahead (e0 : Fent) (tag1 : Int) (mac2 : Int) : Option Bool :=
  cond (e0.1 != tag1) (some (decide (e0.1 < tag1))) (some (decide (e0.2.1 < mac2)))
noncomputable def F_spec_l8Ahead : Fn := ⟨[.val true cFent false, .val false (.one (.int .i64)) false, .val false (.one (.int .i64)) false], [.val false (.one .bool) true], fun a => spec_l8Ahead a.1 a.2.1 a.2.2⟩
def a_spec_l8Ahead : List (Nat × LoopAnn) := []
theorem e_spec_l8Ahead : fnDen ⟨tis, fns_301, [], false⟩ a_spec_l8Ahead Tryz.f310 (codeOf Tryz.f310) [.val true cFent false, .val false (.one (.int .i64)) false, .val false (.one (.int .i64)) false] [.val false (.one .bool) true] = fun a => spec_l8Ahead a.1 a.2.1 a.2.2 := by kernel_rfl
theorem m_spec_l8Ahead : Meets Tryz.prog 310 F_spec_l8Ahead := by
  have h := meets_of (ann := a_spec_l8Ahead) (ps := [.val true cFent false, .val false (.one (.int .i64)) false, .val false (.one (.int .i64)) false]) (rs := [.val false (.one .bool) true]) g_301 mixed Tryz.func310 (by kernel_rfl) (by kernel_rfl : Tryz.f310.body = some (codeOf Tryz.f310))
  rw [e_spec_l8Ahead] at h
  exact h
noncomputable def fns_310 : List (FuncId × Fn) := (310, F_spec_l8Ahead) :: fns_301
theorem g_310 : Good Tryz.prog ⟨tis, fns_310, [], false⟩ := g_301.cons m_spec_l8Ahead
noncomputable def spec_FdbOk_l0 (l0 : List Fent) (i3 : Int) : Option (Int ⊕ (Unit ⊕ Bool)) :=
  cond (decide (i3 < (l0.length : Int)))
    ((at? l0 i3).bind fun x12 =>
    (spec_l8Ent x12).bind fun t14 =>
    (cond (!t14)
      (some true)
      ((cond (decide (i3 > 0))
        ((at? l0 (w64 (i3 - 1))).bind fun x23 =>
        (at? l0 i3).bind fun x27 =>
        (at? l0 i3).bind fun x32 =>
        (spec_l8Ahead x23 x27.1 x32.2.1).bind fun t35 =>
        some (!t35))
        (some false)).bind fun t37 =>
      some t37)).bind fun t38 =>
    cond t38 (some (.inr (.inr false))) (some (.inl (w64 (i3 + 1)))))
    (some (.inr (.inl ())))
noncomputable def spec_FdbOk (l0 : List Fent) : Option Bool :=
  (loop (fun z => spec_FdbOk_l0 l0 z) 0).bind (Sum.elim (fun d =>
    let t2 := decide ((l0.length : Int) ≤ 12)
    some t2) (fun r => some r))
noncomputable def F_spec_FdbOk : Fn := ⟨[.val false (.one (.sl cFent)) false], [.val false (.one .bool) true], fun a => spec_FdbOk a⟩
def a_spec_FdbOk : List (Nat × LoopAnn) := [(0, ⟨⟨[(3, false, [.dat (.int .i64)]), (17, false, [.undef]), (18, false, [.undef]), (19, false, [.undef]), (20, false, [.undef]), (21, false, [.undef]), (22, false, [.undef]), (23, false, [.undef]), (24, false, [.undef]), (25, false, [.undef]), (26, false, [.undef]), (27, false, [.undef]), (28, false, [.undef]), (29, false, [.undef]), (30, false, [.undef]), (31, false, [.undef]), (32, false, [.undef]), (33, false, [.undef]), (34, false, [.undef]), (35, false, [.undef]), (36, false, [.undef]), (37, false, [.undef])], []⟩,
    ⟨[], []⟩, some ⟨[(2, false, [.dat .bool])], []⟩⟩)]
theorem e_spec_FdbOk : fnDen ⟨tis, fns_310, [], false⟩ a_spec_FdbOk Tryz.f214 (codeOf Tryz.f214) [.val false (.one (.sl cFent)) false] [.val false (.one .bool) true] = fun a => spec_FdbOk a := by kernel_rfl
theorem m_spec_FdbOk : Meets Tryz.prog 214 F_spec_FdbOk := by
  have h := meets_of (ann := a_spec_FdbOk) (ps := [.val false (.one (.sl cFent)) false]) (rs := [.val false (.one .bool) true]) g_310 mixed Tryz.func214 (by kernel_rfl) (by kernel_rfl : Tryz.f214.body = some (codeOf Tryz.f214))
  rw [e_spec_FdbOk] at h
  exact h
noncomputable def fns_214 : List (FuncId × Fn) := (214, F_spec_FdbOk) :: fns_310
theorem g_214 : Good Tryz.prog ⟨tis, fns_214, [], false⟩ := g_310.cons m_spec_FdbOk
noncomputable def spec_l8At_l0 (l0 : List Fent) (tag1 : Int) (mac2 : Int) (i7 : Int) : Option (Int ⊕ (Unit ⊕ Int)) :=
  cond (decide (i7 < (l0.length : Int)))
    ((at? l0 i7).bind fun x16 =>
    (cond (x16.1 == tag1)
      ((at? l0 i7).bind fun x24 =>
      some (x24.2.1 == mac2))
      (some false)).bind fun t29 =>
    cond t29 (some (.inr (.inr i7))) (some (.inl (w64 (i7 + 1)))))
    (some (.inr (.inl ())))
noncomputable def spec_l8At (l0 : List Fent) (tag1 : Int) (mac2 : Int) : Option Int :=
  (loop (fun z => spec_l8At_l0 l0 tag1 mac2 z) 0).bind (Sum.elim (fun d =>
    some (-1)) (fun r => some r))
noncomputable def F_spec_l8At : Fn := ⟨[.val false (.one (.sl cFent)) false, .val false (.one (.int .i64)) false, .val false (.one (.int .i64)) false], [.val false (.one (.int .i64)) true], fun a => spec_l8At a.1 a.2.1 a.2.2⟩
def a_spec_l8At : List (Nat × LoopAnn) := [(0, ⟨⟨[(7, false, [.dat (.int .i64)]), (22, false, [.undef]), (23, false, [.undef]), (24, false, [.undef]), (25, false, [.undef]), (26, false, [.undef]), (27, false, [.undef]), (28, false, [.undef])], []⟩,
    ⟨[], []⟩, some ⟨[(6, false, [.dat (.int .i64)])], []⟩⟩)]
theorem e_spec_l8At : fnDen ⟨tis, fns_214, [], false⟩ a_spec_l8At Tryz.f300 (codeOf Tryz.f300) [.val false (.one (.sl cFent)) false, .val false (.one (.int .i64)) false, .val false (.one (.int .i64)) false] [.val false (.one (.int .i64)) true] = fun a => spec_l8At a.1 a.2.1 a.2.2 := by kernel_rfl
theorem m_spec_l8At : Meets Tryz.prog 300 F_spec_l8At := by
  have h := meets_of (ann := a_spec_l8At) (ps := [.val false (.one (.sl cFent)) false, .val false (.one (.int .i64)) false, .val false (.one (.int .i64)) false]) (rs := [.val false (.one (.int .i64)) true]) g_214 mixed Tryz.func300 (by kernel_rfl) (by kernel_rfl : Tryz.f300.body = some (codeOf Tryz.f300))
  rw [e_spec_l8At] at h
  exact h
noncomputable def fns_300 : List (FuncId × Fn) := (300, F_spec_l8At) :: fns_214
theorem g_300 : Good Tryz.prog ⟨tis, fns_300, [], false⟩ := g_214.cons m_spec_l8At
noncomputable def spec_l8Put_l0 (p0 : List Fent) (i1 : Fent) (t6 : Bool) (t7 : Int) (t5 : List Fent) : Option ((Bool × Int × List Fent) ⊕ (Bool × List Fent)) :=
  cond (decide (t7 < (p0.length : Int)))
    ((cond (!t6)
      ((at? p0 t7).bind fun x20 =>
      (spec_l8Ahead x20 i1.1 i1.2.1).bind fun t26 =>
      some (!t26))
      (some false)).bind fun t28 =>
    cond t28
      ((app t5 [i1]).bind fun zs32 =>
      (at? p0 t7).bind fun x35 =>
      (cond (x35.1 != i1.1)
        (some true)
        ((at? p0 t7).bind fun x44 =>
        some (x44.2.1 != i1.2.1))).bind fun t50 =>
      cond t50
        ((at? p0 t7).bind fun x54 =>
        (app zs32 [x54]).bind fun zs57 =>
        some (.inl (true, w64 (t7 + 1), zs57)))
        (some (.inl (true, w64 (t7 + 1), zs32))))
      ((at? p0 t7).bind fun x35_1 =>
      (cond (x35_1.1 != i1.1)
        (some true)
        ((at? p0 t7).bind fun x44_1 =>
        some (x44_1.2.1 != i1.2.1))).bind fun t50_1 =>
      cond t50_1
        ((at? p0 t7).bind fun x54_1 =>
        (app t5 [x54_1]).bind fun zs57_1 =>
        some (.inl (t6, w64 (t7 + 1), zs57_1)))
        (some (.inl (t6, w64 (t7 + 1), t5)))))
    (some (.inr (t6, t5)))
noncomputable def spec_l8Put (p0 : List Fent) (i1 : Fent) : Option (List Fent) :=
  (loop (fun z => spec_l8Put_l0 p0 i1 z.1 z.2.1 z.2.2) (false, 0, ([] : List Fent))).bind fun d =>
  cond (!d.1)
    ((app d.2 [i1]).bind fun zs63 =>
    some zs63)
    (some d.2)
noncomputable def F_spec_l8Put : Fn := ⟨[.val false (.one (.sl cFent)) false, .val true cFent false], [.val false (.one (.sl cFent)) true], fun a => spec_l8Put a.1 a.2⟩
def a_spec_l8Put : List (Nat × LoopAnn) := [(0, ⟨⟨[(5, false, [.own 1000000000]), (6, false, [.dat .bool]), (7, false, [.dat (.int .i64)]), (18, false, [.undef]), (19, false, [.undef]), (20, false, [.undef]), (21, false, [.undef]), (22, false, [.undef]), (23, false, [.undef]), (24, false, [.undef]), (25, false, [.undef]), (26, false, [.undef]), (27, false, [.undef]), (42, false, [.undef]), (43, false, [.undef]), (44, false, [.undef]), (45, false, [.undef]), (46, false, [.undef]), (47, false, [.undef]), (48, false, [.undef]), (49, false, [.undef])], [(1000000000, .root cFent true)]⟩,
    ⟨[(5, false, [.own 1000000300]), (6, false, [.dat .bool])], [(1000000300, .root cFent true)]⟩, none⟩)]
theorem e_spec_l8Put : fnDen ⟨tis, fns_300, [], false⟩ a_spec_l8Put Tryz.f302 (codeOf Tryz.f302) [.val false (.one (.sl cFent)) false, .val true cFent false] [.val false (.one (.sl cFent)) true] = fun a => spec_l8Put a.1 a.2 := by kernel_rfl
theorem m_spec_l8Put : Meets Tryz.prog 302 F_spec_l8Put := by
  have h := meets_of (ann := a_spec_l8Put) (ps := [.val false (.one (.sl cFent)) false, .val true cFent false]) (rs := [.val false (.one (.sl cFent)) true]) g_300 mixed Tryz.func302 (by kernel_rfl) (by kernel_rfl : Tryz.f302.body = some (codeOf Tryz.f302))
  rw [e_spec_l8Put] at h
  exact h
noncomputable def fns_302 : List (FuncId × Fn) := (302, F_spec_l8Put) :: fns_300
theorem g_302 : Good Tryz.prog ⟨tis, fns_302, [], false⟩ := g_300.cons m_spec_l8Put
noncomputable def spec_Learn (l0 : List Fent) (tag1 : Int) (mac2 : Int) (port3 : Int) : Option (List Fent) :=
  (spec_l8At l0 tag1 mac2).bind fun t18 =>
  (spec_FdbOk l0).bind fun t20 =>
  (cond (!t20)
    (some true)
    ((spec_l8Ent (tag1, mac2, port3, 0, false)).bind fun t24 =>
    some (!t24))).bind fun t26 =>
  (cond t26
    (some true)
    ((cond (decide (t18 ≥ 0))
      ((at? l0 t18).bind fun x33 =>
      some x33.2.2.2.2)
      (some false)).bind fun t36 =>
    some t36)).bind fun t37 =>
  (cond t37
    (some true)
    ((cond (decide (t18 < 0)) (some (decide ((l0.length : Int) ≥ 12))) (some false)).bind fun t45 =>
    some t45)).bind fun t46 =>
  cond t46
    ((spec_l8Copy l0).bind fun t48 =>
    some t48)
    ((spec_l8Put l0 (tag1, mac2, port3, 0, false)).bind fun t51 =>
    some t51)
noncomputable def F_spec_Learn : Fn := ⟨[.val false (.one (.sl cFent)) false, .val false (.one (.int .i64)) false, .val false (.one (.int .i64)) false, .val false (.one (.int .i64)) false], [.val false (.one (.sl cFent)) true], fun a => spec_Learn a.1 a.2.1 a.2.2.1 a.2.2.2⟩
def a_spec_Learn : List (Nat × LoopAnn) := []
theorem e_spec_Learn : fnDen ⟨tis, fns_302, [], false⟩ a_spec_Learn Tryz.f185 (codeOf Tryz.f185) [.val false (.one (.sl cFent)) false, .val false (.one (.int .i64)) false, .val false (.one (.int .i64)) false, .val false (.one (.int .i64)) false] [.val false (.one (.sl cFent)) true] = fun a => spec_Learn a.1 a.2.1 a.2.2.1 a.2.2.2 := by kernel_rfl
theorem m_spec_Learn : Meets Tryz.prog 185 F_spec_Learn := by
  have h := meets_of (ann := a_spec_Learn) (ps := [.val false (.one (.sl cFent)) false, .val false (.one (.int .i64)) false, .val false (.one (.int .i64)) false, .val false (.one (.int .i64)) false]) (rs := [.val false (.one (.sl cFent)) true]) g_302 mixed Tryz.func185 (by kernel_rfl) (by kernel_rfl : Tryz.f185.body = some (codeOf Tryz.f185))
  rw [e_spec_Learn] at h
  exact h
noncomputable def fns_185 : List (FuncId × Fn) := (185, F_spec_Learn) :: fns_302
theorem g_185 : Good Tryz.prog ⟨tis, fns_185, [], false⟩ := g_302.cons m_spec_Learn
noncomputable def spec_l6Mac (c0 : L1Cur) : Option (L1Cur × Int) :=
  (spec_l1Int c0 ([11, 12, 13, 14] : List Int)).bind fun t5 =>
  some t5
noncomputable def F_spec_l6Mac : Fn := ⟨[.ptr cL1Cur false], [.val false (.one (.int .i64)) true], fun a => spec_l6Mac a⟩
def a_spec_l6Mac : List (Nat × LoopAnn) := []
theorem e_spec_l6Mac : fnDen ⟨tis, fns_185, [], false⟩ a_spec_l6Mac Tryz.f186 (codeOf Tryz.f186) [.ptr cL1Cur false] [.val false (.one (.int .i64)) true] = fun a => spec_l6Mac a := by kernel_rfl
theorem m_spec_l6Mac : Meets Tryz.prog 186 F_spec_l6Mac := by
  have h := meets_of (ann := a_spec_l6Mac) (ps := [.ptr cL1Cur false]) (rs := [.val false (.one (.int .i64)) true]) g_185 mixed Tryz.func186 (by kernel_rfl) (by kernel_rfl : Tryz.f186.body = some (codeOf Tryz.f186))
  rw [e_spec_l6Mac] at h
  exact h
noncomputable def fns_186 : List (FuncId × Fn) := (186, F_spec_l6Mac) :: fns_185
theorem g_186 : Good Tryz.prog ⟨tis, fns_186, [], false⟩ := g_185.cons m_spec_l6Mac
noncomputable def spec_SetStatic (l0 : List Fent) (tag1 : Int) (mac2 : Int) (port3 : Int) : Option ((List Fent) × Bool) :=
  (spec_FdbOk l0).bind fun t16 =>
  (cond (!t16)
    (some true)
    ((spec_l8Ent (tag1, mac2, port3, 0, true)).bind fun t20 =>
    some (!t20))).bind fun t22 =>
  (cond t22
    (some true)
    ((spec_l8At l0 tag1 mac2).bind fun t27 =>
    (cond (decide (t27 < 0)) (some (decide ((l0.length : Int) ≥ 12))) (some false)).bind fun t33 =>
    some t33)).bind fun t34 =>
  cond t34
    ((spec_l8Copy l0).bind fun t36 =>
    some (t36, false))
    ((spec_l8Put l0 (tag1, mac2, port3, 0, true)).bind fun t39 =>
    some (t39, true))
noncomputable def F_spec_SetStatic : Fn := ⟨[.val false (.one (.sl cFent)) false, .val false (.one (.int .i64)) false, .val false (.one (.int .i64)) false, .val false (.one (.int .i64)) false], [.val false (.one (.sl cFent)) true, .val false (.one .bool) true], fun a => spec_SetStatic a.1 a.2.1 a.2.2.1 a.2.2.2⟩
def a_spec_SetStatic : List (Nat × LoopAnn) := []
theorem e_spec_SetStatic : fnDen ⟨tis, fns_186, [], false⟩ a_spec_SetStatic Tryz.f187 (codeOf Tryz.f187) [.val false (.one (.sl cFent)) false, .val false (.one (.int .i64)) false, .val false (.one (.int .i64)) false, .val false (.one (.int .i64)) false] [.val false (.one (.sl cFent)) true, .val false (.one .bool) true] = fun a => spec_SetStatic a.1 a.2.1 a.2.2.1 a.2.2.2 := by kernel_rfl
theorem m_spec_SetStatic : Meets Tryz.prog 187 F_spec_SetStatic := by
  have h := meets_of (ann := a_spec_SetStatic) (ps := [.val false (.one (.sl cFent)) false, .val false (.one (.int .i64)) false, .val false (.one (.int .i64)) false, .val false (.one (.int .i64)) false]) (rs := [.val false (.one (.sl cFent)) true, .val false (.one .bool) true]) g_186 mixed Tryz.func187 (by kernel_rfl) (by kernel_rfl : Tryz.f187.body = some (codeOf Tryz.f187))
  rw [e_spec_SetStatic] at h
  exact h
noncomputable def fns_187 : List (FuncId × Fn) := (187, F_spec_SetStatic) :: fns_186
theorem g_187 : Good Tryz.prog ⟨tis, fns_187, [], false⟩ := g_186.cons m_spec_SetStatic
noncomputable def spec_l11Draw_l0 (t7 : L1Cur × Int) (t5 : Int) (b0 : List Int) (b1 : Int) (b2 : Int) (b0_1 : Int) (b1_1 : List UInt8) (b6 : Int) (b7 : Int) (b8 : Int) (b9 : Int) (b10 : Int) (b3 : List Fent) : Option ((Int × List Int × Int × Int × Int × List UInt8 × Int × Int × Int × Int × Int × List Fent) ⊕ (List Int × Int × Int × Int × List UInt8 × Int × Int × Int × Int × Int × List Fent)) :=
  cond (decide (t5 > 0))
    ((spec_l1Below (b0, b1, b2) 3).bind fun t35 =>
    (spec_l6Mac t35.1).bind fun t38 =>
    (spec_l1Below t38.1 (w64 (1 + t7.2))).bind fun t41 =>
    (spec_Learn b3 (w64 (1 + t35.2)) t38.2 t41.2).bind fun t42 =>
    some (.inl (w64 (t5 - 1), t41.1.1, t41.1.2.1, t41.1.2.2, b0_1, b1_1, b6, b7, b8, b9, b10, t42)))
    (some (.inr (b0, b1, b2, b0_1, b1_1, b6, b7, b8, b9, b10, b3)))
noncomputable def spec_l11Draw (p0 : L1Cur) : Option (L1Cur × Bridge) :=
  (spec_l1Below p0 4).bind fun t7 =>
  (spec_l1Below t7.1 5).bind fun t10 =>
  (spec_BridgeNew (w64 (1 + t10.2)) (w64 (1 + t7.2))).bind fun t13 =>
  (spec_l1Str t10.1 ([[], [121, 97, 114, 100], [98, 49]] : List (List UInt8))).bind fun t16 =>
  (spec_l10Draw t16.1 (w64 (1 + t7.2))).bind fun t20 =>
  (spec_l9Draw t20.1 (w64 (1 + t7.2))).bind fun t24 =>
  (spec_l1Below t24.1 6).bind fun t27 =>
  (loop (fun z => spec_l11Draw_l0 t7 z.1 z.2.1 z.2.2.1 z.2.2.2.1 z.2.2.2.2.1 z.2.2.2.2.2.1 z.2.2.2.2.2.2.1 z.2.2.2.2.2.2.2.1 z.2.2.2.2.2.2.2.2.1 z.2.2.2.2.2.2.2.2.2.1 z.2.2.2.2.2.2.2.2.2.2.1 z.2.2.2.2.2.2.2.2.2.2.2) (t27.2, t27.1.1, t27.1.2.1, t27.1.2.2, t13.1, t16.2, t13.2.2.2.2.2.2.1, t13.2.2.2.2.2.2.2.1, t13.2.2.2.2.2.2.2.2.1, t13.2.2.2.2.2.2.2.2.2.1, t13.2.2.2.2.2.2.2.2.2.2, t13.2.2.2.1)).bind fun d =>
  (spec_l1Once (d.1, d.2.1, d.2.2.1) 3).bind fun t45 =>
  cond t45.2
    ((spec_l6Mac t45.1).bind fun t50 =>
    (spec_l1Below t50.1 (w64 (1 + t7.2))).bind fun t53 =>
    (spec_SetStatic d.2.2.2.2.2.2.2.2.2.2 1 t50.2 t53.2).bind fun t54 =>
    (spec_l1Below t53.1 5).bind fun t59 =>
    (spec_l1Int t59.1 ([0, 1, 5, 1000000] : List Int)).bind fun t63 =>
    some (t63.1, (d.2.2.2.1, d.2.2.2.2.1, t20.2, t54.1, t24.2.1, t24.2.2, t59.2, d.2.2.2.2.2.2.1, d.2.2.2.2.2.2.2.1, d.2.2.2.2.2.2.2.2.1, t63.2)))
    ((spec_l1Below t45.1 5).bind fun t59_1 =>
    (spec_l1Int t59_1.1 ([0, 1, 5, 1000000] : List Int)).bind fun t63_1 =>
    some (t63_1.1, (d.2.2.2.1, d.2.2.2.2.1, t20.2, d.2.2.2.2.2.2.2.2.2.2, t24.2.1, t24.2.2, t59_1.2, d.2.2.2.2.2.2.1, d.2.2.2.2.2.2.2.1, d.2.2.2.2.2.2.2.2.1, t63_1.2)))
noncomputable def F_spec_l11Draw : Fn := ⟨[.ptr cL1Cur false], [.val true cBridge true], fun a => spec_l11Draw a⟩
def a_spec_l11Draw : List (Nat × LoopAnn) := [(0, ⟨⟨[(5, false, [.dat (.int .i64)])], [(1, .box [.dat (.sl (.one (.int .u8))), .dat (.int .i64), .dat (.int .i64)]), (530432, .box [.dat (.int .i64), .dat .str, .same 1051712, .own 1000000000, .same 1313856, .same 1313857, .dat (.int .i64), .dat (.int .i64), .dat (.int .i64), .dat (.int .i64), .dat (.int .i64)]), (1000000000, .root cFent true)]⟩,
    ⟨[], [(1, .box [.dat (.sl (.one (.int .u8))), .dat (.int .i64), .dat (.int .i64)]), (530432, .box [.dat (.int .i64), .dat .str, .same 1051712, .own 1000000300, .same 1313856, .same 1313857, .dat (.int .i64), .dat (.int .i64), .dat (.int .i64), .dat (.int .i64), .dat (.int .i64)]), (1000000300, .root cFent true)]⟩, none⟩)]
theorem e_spec_l11Draw : fnDen ⟨tis, fns_187, [], false⟩ a_spec_l11Draw Tryz.f78 (codeOf Tryz.f78) [.ptr cL1Cur false] [.val true cBridge true] = fun a => spec_l11Draw a := by kernel_rfl
theorem m_spec_l11Draw : Meets Tryz.prog 78 F_spec_l11Draw := by
  have h := meets_of (ann := a_spec_l11Draw) (ps := [.ptr cL1Cur false]) (rs := [.val true cBridge true]) g_187 mixed Tryz.func78 (by kernel_rfl) (by kernel_rfl : Tryz.f78.body = some (codeOf Tryz.f78))
  rw [e_spec_l11Draw] at h
  exact h
noncomputable def fns_78 : List (FuncId × Fn) := (78, F_spec_l11Draw) :: fns_187
theorem g_78 : Good Tryz.prog ⟨tis, fns_78, [], false⟩ := g_187.cons m_spec_l11Draw
noncomputable def spec_VecOk (v0 : Vec) : Option Bool :=
  (spec_l1In v0.1 1 99).bind fun t5 =>
  (cond t5
    ((spec_l1In v0.2.1 0 100000).bind fun t9 =>
    some t9)
    (some false)).bind fun t10 =>
  (cond t10
    ((spec_l1In v0.2.2.1 0 10).bind fun t14 =>
    some t14)
    (some false)).bind fun t15 =>
  (cond t15
    ((spec_l1In v0.2.2.2.1 1 99).bind fun t19 =>
    some t19)
    (some false)).bind fun t20 =>
  (cond t20
    ((spec_l1In v0.2.2.2.2 0 7).bind fun t24 =>
    some t24)
    (some false)).bind fun t25 =>
  some t25
noncomputable def F_spec_VecOk : Fn := ⟨[.val true cVec false], [.val false (.one .bool) true], fun a => spec_VecOk a⟩
def a_spec_VecOk : List (Nat × LoopAnn) := []
theorem e_spec_VecOk : fnDen ⟨tis, fns_78, [], false⟩ a_spec_VecOk Tryz.f255 (codeOf Tryz.f255) [.val true cVec false] [.val false (.one .bool) true] = fun a => spec_VecOk a := by kernel_rfl
theorem m_spec_VecOk : Meets Tryz.prog 255 F_spec_VecOk := by
  have h := meets_of (ann := a_spec_VecOk) (ps := [.val true cVec false]) (rs := [.val false (.one .bool) true]) g_78 mixed Tryz.func255 (by kernel_rfl) (by kernel_rfl : Tryz.f255.body = some (codeOf Tryz.f255))
  rw [e_spec_VecOk] at h
  exact h
noncomputable def fns_255 : List (FuncId × Fn) := (255, F_spec_VecOk) :: fns_78
theorem g_255 : Good Tryz.prog ⟨tis, fns_255, [], false⟩ := g_78.cons m_spec_VecOk
noncomputable def spec_PtOk (p0 : Pt) : Option Bool :=
  (spec_l1In p0.2.1 1 1000).bind fun t5 =>
  (cond (!t5)
    (some true)
    ((cond (!p0.1) (some p0.2.2.1) (some false)).bind fun t14 =>
    some t14)).bind fun t15 =>
  cond t15
    (some false)
    (cond (!p0.2.2.1)
      (let t2 := p0.2.2.2.1 == 0 && (p0.2.2.2.2.1 == 0 && (p0.2.2.2.2.2.1 == 0 && (p0.2.2.2.2.2.2.1 == 0 && (p0.2.2.2.2.2.2.2 == 0))))
      some t2)
      ((spec_VecOk p0.2.2.2).bind fun t25 =>
      some t25))
noncomputable def F_spec_PtOk : Fn := ⟨[.val true cPt false], [.val false (.one .bool) true], fun a => spec_PtOk a⟩
def a_spec_PtOk : List (Nat × LoopAnn) := []
theorem e_spec_PtOk : fnDen ⟨tis, fns_255, [], false⟩ a_spec_PtOk Tryz.f213 (codeOf Tryz.f213) [.val true cPt false] [.val false (.one .bool) true] = fun a => spec_PtOk a := by kernel_rfl
theorem m_spec_PtOk : Meets Tryz.prog 213 F_spec_PtOk := by
  have h := meets_of (ann := a_spec_PtOk) (ps := [.val true cPt false]) (rs := [.val false (.one .bool) true]) g_255 mixed Tryz.func213 (by kernel_rfl) (by kernel_rfl : Tryz.f213.body = some (codeOf Tryz.f213))
  rw [e_spec_PtOk] at h
  exact h
noncomputable def fns_213 : List (FuncId × Fn) := (213, F_spec_PtOk) :: fns_255
theorem g_213 : Good Tryz.prog ⟨tis, fns_213, [], false⟩ := g_255.cons m_spec_PtOk
noncomputable def spec_l11Counts (b0 : Bridge) : Option Bool :=
  (spec_l1In b0.2.2.2.2.2.2.1 0 1000000).bind fun t5 =>
  (cond t5
    ((spec_l1In b0.2.2.2.2.2.2.2.1 0 1000000).bind fun t9 =>
    some t9)
    (some false)).bind fun t10 =>
  (cond t10
    ((spec_l1In b0.2.2.2.2.2.2.2.2.1 0 1000000).bind fun t14 =>
    some t14)
    (some false)).bind fun t15 =>
  (cond t15
    ((spec_l1In b0.2.2.2.2.2.2.2.2.2.1 0 1000000).bind fun t19 =>
    some t19)
    (some false)).bind fun t20 =>
  (cond t20
    ((spec_l1In b0.2.2.2.2.2.2.2.2.2.2 0 1000000).bind fun t24 =>
    some t24)
    (some false)).bind fun t25 =>
  some t25
noncomputable def F_spec_l11Counts : Fn := ⟨[.val true cBridge false], [.val false (.one .bool) true], fun a => spec_l11Counts a⟩
def a_spec_l11Counts : List (Nat × LoopAnn) := []
theorem e_spec_l11Counts : fnDen ⟨tis, fns_213, [], false⟩ a_spec_l11Counts Tryz.f215 (codeOf Tryz.f215) [.val true cBridge false] [.val false (.one .bool) true] = fun a => spec_l11Counts a := by kernel_rfl
theorem m_spec_l11Counts : Meets Tryz.prog 215 F_spec_l11Counts := by
  have h := meets_of (ann := a_spec_l11Counts) (ps := [.val true cBridge false]) (rs := [.val false (.one .bool) true]) g_213 mixed Tryz.func215 (by kernel_rfl) (by kernel_rfl : Tryz.f215.body = some (codeOf Tryz.f215))
  rw [e_spec_l11Counts] at h
  exact h
noncomputable def fns_215 : List (FuncId × Fn) := (215, F_spec_l11Counts) :: fns_213
theorem g_215 : Good Tryz.prog ⟨tis, fns_215, [], false⟩ := g_213.cons m_spec_l11Counts
noncomputable def spec_BridgeOk_l0 (b0 : Bridge) (i3 : Int) : Option (Int ⊕ (Unit ⊕ Bool)) :=
  cond (decide (i3 < (b0.2.2.1.length : Int)))
    ((at? b0.2.2.1 i3).bind fun x14 =>
    (spec_PtOk x14).bind fun t16 =>
    cond (!t16) (some (.inr (.inr false))) (some (.inl (w64 (i3 + 1)))))
    (some (.inr (.inl ())))
noncomputable def spec_BridgeOk (b0 : Bridge) : Option Bool :=
  (loop (fun z => spec_BridgeOk_l0 b0 z) 0).bind (Sum.elim (fun d =>
    (spec_l1In b0.1 1 99).bind fun t20 =>
    (cond t20 (some (decide ((b0.2.1.length : Int) ≤ 10))) (some false)).bind fun t26 =>
    (cond t26
      ((spec_l1In (b0.2.2.1.length : Int) 1 6).bind fun t31 =>
      some t31)
      (some false)).bind fun t32 =>
    (cond t32
      ((spec_FdbOk b0.2.2.2.1).bind fun t36 =>
      some t36)
      (some false)).bind fun t37 =>
    (cond t37
      ((spec_VtabOk (b0.2.2.2.2.1, b0.2.2.2.2.2.1) (b0.2.2.1.length : Int)).bind fun t44 =>
      some t44)
      (some false)).bind fun t45 =>
    (cond t45
      ((spec_l11Counts b0).bind fun t48 =>
      some t48)
      (some false)).bind fun t49 =>
    some t49) (fun r => some r))
noncomputable def F_spec_BridgeOk : Fn := ⟨[.val true cBridge false], [.val false (.one .bool) true], fun a => spec_BridgeOk a⟩
def a_spec_BridgeOk : List (Nat × LoopAnn) := [(0, ⟨⟨[(3, false, [.dat (.int .i64)])], []⟩,
    ⟨[], []⟩, some ⟨[(2, false, [.dat .bool])], []⟩⟩)]
theorem e_spec_BridgeOk : fnDen ⟨tis, fns_215, [], false⟩ a_spec_BridgeOk Tryz.f94 (codeOf Tryz.f94) [.val true cBridge false] [.val false (.one .bool) true] = fun a => spec_BridgeOk a := by kernel_rfl
theorem m_spec_BridgeOk : Meets Tryz.prog 94 F_spec_BridgeOk := by
  have h := meets_of (ann := a_spec_BridgeOk) (ps := [.val true cBridge false]) (rs := [.val false (.one .bool) true]) g_215 mixed Tryz.func94 (by kernel_rfl) (by kernel_rfl : Tryz.f94.body = some (codeOf Tryz.f94))
  rw [e_spec_BridgeOk] at h
  exact h
noncomputable def fns_94 : List (FuncId × Fn) := (94, F_spec_BridgeOk) :: fns_215
theorem g_94 : Good Tryz.prog ⟨tis, fns_94, [], false⟩ := g_215.cons m_spec_BridgeOk
noncomputable def spec_l17Name (l0 : List Int) : Option (List Int) :=
  (app ([1, 3, 1] : List Int) l0).bind fun zs5 =>
  some zs5
noncomputable def F_spec_l17Name : Fn := ⟨[.val false (.one (.sl (.one (.int .i64)))) false], [.val false (.one (.sl (.one (.int .i64)))) true], fun a => spec_l17Name a⟩
def a_spec_l17Name : List (Nat × LoopAnn) := []
theorem e_spec_l17Name : fnDen ⟨tis, fns_94, [], false⟩ a_spec_l17Name Tryz.f190 (codeOf Tryz.f190) [.val false (.one (.sl (.one (.int .i64)))) false] [.val false (.one (.sl (.one (.int .i64)))) true] = fun a => spec_l17Name a := by kernel_rfl
theorem m_spec_l17Name : Meets Tryz.prog 190 F_spec_l17Name := by
  have h := meets_of (ann := a_spec_l17Name) (ps := [.val false (.one (.sl (.one (.int .i64)))) false]) (rs := [.val false (.one (.sl (.one (.int .i64)))) true]) g_94 mixed Tryz.func190 (by kernel_rfl) (by kernel_rfl : Tryz.f190.body = some (codeOf Tryz.f190))
  rw [e_spec_l17Name] at h
  exact h
noncomputable def fns_190 : List (FuncId × Fn) := (190, F_spec_l17Name) :: fns_94
theorem g_190 : Good Tryz.prog ⟨tis, fns_190, [], false⟩ := g_94.cons m_spec_l17Name
noncomputable def spec_l3Int (n0 : Int) : Option Val :=
  some (2, n0, [], [])
noncomputable def F_spec_l3Int : Fn := ⟨[.val false (.one (.int .i64)) false], [.val true cVal true], fun a => spec_l3Int a⟩
def a_spec_l3Int : List (Nat × LoopAnn) := []
theorem e_spec_l3Int : fnDen ⟨tis, fns_190, [], false⟩ a_spec_l3Int Tryz.f229 (codeOf Tryz.f229) [.val false (.one (.int .i64)) false] [.val true cVal true] = fun a => spec_l3Int a := by kernel_rfl
theorem m_spec_l3Int : Meets Tryz.prog 229 F_spec_l3Int := by
  have h := meets_of (ann := a_spec_l3Int) (ps := [.val false (.one (.int .i64)) false]) (rs := [.val true cVal true]) g_190 mixed Tryz.func229 (by kernel_rfl) (by kernel_rfl : Tryz.f229.body = some (codeOf Tryz.f229))
  rw [e_spec_l3Int] at h
  exact h
noncomputable def fns_229 : List (FuncId × Fn) := (229, F_spec_l3Int) :: fns_190
theorem g_229 : Good Tryz.prog ⟨tis, fns_229, [], false⟩ := g_190.cons m_spec_l3Int
noncomputable def spec_l17Add (out0 : List Bind) (name1 : List Int) (n2 : Int) : Option (List Bind) :=
  (spec_l17Name name1).bind fun t9 =>
  (spec_l3Int n2).bind fun t11 =>
  (app out0 [(t9, t11.1, t11.2.1, t11.2.2.1, t11.2.2.2)]).bind fun zs14 =>
  some zs14
noncomputable def F_spec_l17Add : Fn := ⟨[.val false (.one (.sl cBind)) true, .val false (.one (.sl (.one (.int .i64)))) false, .val false (.one (.int .i64)) false], [.val false (.one (.sl cBind)) true], fun a => spec_l17Add a.1 a.2.1 a.2.2⟩
def a_spec_l17Add : List (Nat × LoopAnn) := []
theorem e_spec_l17Add : fnDen ⟨tis, fns_229, [], false⟩ a_spec_l17Add Tryz.f303 (codeOf Tryz.f303) [.val false (.one (.sl cBind)) true, .val false (.one (.sl (.one (.int .i64)))) false, .val false (.one (.int .i64)) false] [.val false (.one (.sl cBind)) true] = fun a => spec_l17Add a.1 a.2.1 a.2.2 := by kernel_rfl
theorem m_spec_l17Add : Meets Tryz.prog 303 F_spec_l17Add := by
  have h := meets_of (ann := a_spec_l17Add) (ps := [.val false (.one (.sl cBind)) true, .val false (.one (.sl (.one (.int .i64)))) false, .val false (.one (.int .i64)) false]) (rs := [.val false (.one (.sl cBind)) true]) g_229 mixed Tryz.func303 (by kernel_rfl) (by kernel_rfl : Tryz.f303.body = some (codeOf Tryz.f303))
  rw [e_spec_l17Add] at h
  exact h
noncomputable def fns_303 : List (FuncId × Fn) := (303, F_spec_l17Add) :: fns_229
theorem g_303 : Good Tryz.prog ⟨tis, fns_303, [], false⟩ := g_229.cons m_spec_l17Add
noncomputable def spec_LessVec (a0 : Vec) (b1 : Vec) : Option Bool :=
  cond (a0.1 != b1.1)
    (some (decide (a0.1 < b1.1)))
    (cond (a0.2.1 != b1.2.1)
      (some (decide (a0.2.1 < b1.2.1)))
      (cond (a0.2.2.2.1 != b1.2.2.2.1)
        (let t4 := decide (a0.2.2.2.1 < b1.2.2.2.1)
        some t4)
        (let t4_1 := decide (a0.2.2.2.2 < b1.2.2.2.2)
        some t4_1)))
noncomputable def F_spec_LessVec : Fn := ⟨[.val true cVec false, .val true cVec false], [.val false (.one .bool) true], fun a => spec_LessVec a.1 a.2⟩
def a_spec_LessVec : List (Nat × LoopAnn) := []
theorem e_spec_LessVec : fnDen ⟨tis, fns_303, [], false⟩ a_spec_LessVec Tryz.f292 (codeOf Tryz.f292) [.val true cVec false, .val true cVec false] [.val false (.one .bool) true] = fun a => spec_LessVec a.1 a.2 := by kernel_rfl
theorem m_spec_LessVec : Meets Tryz.prog 292 F_spec_LessVec := by
  have h := meets_of (ann := a_spec_LessVec) (ps := [.val true cVec false, .val true cVec false]) (rs := [.val false (.one .bool) true]) g_303 mixed Tryz.func292 (by kernel_rfl) (by kernel_rfl : Tryz.f292.body = some (codeOf Tryz.f292))
  rw [e_spec_LessVec] at h
  exact h
noncomputable def fns_292 : List (FuncId × Fn) := (292, F_spec_LessVec) :: fns_303
theorem g_292 : Good Tryz.prog ⟨tis, fns_292, [], false⟩ := g_303.cons m_spec_LessVec
noncomputable def spec_StepVec (v0 : Vec) (cost1 : Int) : Option (Vec × Bool) :=
  (spec_VecOk v0).bind fun t8 =>
  (cond (!t8)
    (some true)
    ((spec_l1In cost1 1 1000).bind fun t12 =>
    some (!t12))).bind fun t14 =>
  cond t14
    (some (v0, false))
    ((spec_VecOk (v0.1, w64 (v0.2.1 + cost1), w64 (v0.2.2.1 + 1), v0.2.2.2.1, v0.2.2.2.2)).bind fun t27 =>
    cond (!t27)
      (some (v0, false))
      (some ((v0.1, w64 (v0.2.1 + cost1), w64 (v0.2.2.1 + 1), v0.2.2.2.1, v0.2.2.2.2), true)))
noncomputable def F_spec_StepVec : Fn := ⟨[.val true cVec false, .val false (.one (.int .i64)) false], [.val true cVec true, .val false (.one .bool) true], fun a => spec_StepVec a.1 a.2⟩
def a_spec_StepVec : List (Nat × LoopAnn) := []
theorem e_spec_StepVec : fnDen ⟨tis, fns_292, [], false⟩ a_spec_StepVec Tryz.f350 (codeOf Tryz.f350) [.val true cVec false, .val false (.one (.int .i64)) false] [.val true cVec true, .val false (.one .bool) true] = fun a => spec_StepVec a.1 a.2 := by kernel_rfl
theorem m_spec_StepVec : Meets Tryz.prog 350 F_spec_StepVec := by
  have h := meets_of (ann := a_spec_StepVec) (ps := [.val true cVec false, .val false (.one (.int .i64)) false]) (rs := [.val true cVec true, .val false (.one .bool) true]) g_292 mixed Tryz.func350 (by kernel_rfl) (by kernel_rfl : Tryz.f350.body = some (codeOf Tryz.f350))
  rw [e_spec_StepVec] at h
  exact h
noncomputable def fns_350 : List (FuncId × Fn) := (350, F_spec_StepVec) :: fns_292
theorem g_350 : Good Tryz.prog ⟨tis, fns_350, [], false⟩ := g_292.cons m_spec_StepVec
noncomputable def spec_BestVec_l0 (p0 : Int) (i1 : List Pt) (t8 : Int) (t9 : Int) (b0 : Int) (b1 : Int) (b2 : Int) (b3 : Int) (b4 : Int) (b0_1 : Int) (b1_1 : Int) (b2_1 : Int) (b3_1 : Int) (b4_1 : Int) : Option ((Int × Int × Int × Int × Int × Int × Int × Int × Int × Int × Int × Int) ⊕ (Int × Int × Int × Int × Int × Int × Int × Int × Int × Int × Int)) :=
  cond (decide (t9 < (i1.length : Int)))
    ((at? i1 t9).bind fun x24 =>
    (cond (!x24.1)
      (some true)
      ((at? i1 t9).bind fun x31 =>
      some (!x31.2.2.1))).bind fun t35 =>
    cond t35
      (some (.inl (t8, w64 (t9 + 1), b0, b1, b2, b3, b4, b0_1, b1_1, b2_1, b3_1, b4_1)))
      ((at? i1 t9).bind fun x39 =>
      (at? i1 t9).bind fun x44 =>
      (spec_StepVec x39.2.2.2 x44.2.1).bind fun t47 =>
      (cond t47.2 (some (decide (t47.1.1 < p0))) (some false)).bind fun t56 =>
      (cond t56
        ((cond (decide (t8 < 0))
          (some true)
          ((spec_LessVec t47.1 (b0_1, b1_1, b2_1, b3_1, b4_1)).bind fun t63 =>
          some t63)).bind fun t64 =>
        some t64)
        (some false)).bind fun t65 =>
      cond t65
        (some (.inl (t9, w64 (t9 + 1), t47.1.1, t47.1.2.1, t47.1.2.2.1, p0, 0, t47.1.1, t47.1.2.1, t47.1.2.2.1, t47.1.2.2.2.1, t47.1.2.2.2.2)))
        (some (.inl (t8, w64 (t9 + 1), b0, b1, b2, b3, b4, b0_1, b1_1, b2_1, b3_1, b4_1)))))
    (some (.inr (t8, b0, b1, b2, b3, b4, b0_1, b1_1, b2_1, b3_1, b4_1)))
noncomputable def spec_BestVec (p0 : Int) (i1 : List Pt) : Option (Vec × Int) :=
  (loop (fun z => spec_BestVec_l0 p0 i1 z.1 z.2.1 z.2.2.1 z.2.2.2.1 z.2.2.2.2.1 z.2.2.2.2.2.1 z.2.2.2.2.2.2.1 z.2.2.2.2.2.2.2.1 z.2.2.2.2.2.2.2.2.1 z.2.2.2.2.2.2.2.2.2.1 z.2.2.2.2.2.2.2.2.2.2.1 z.2.2.2.2.2.2.2.2.2.2.2) ((-1), 0, p0, 0, 0, p0, 0, 0, 0, 0, 0, 0)).bind fun d =>
  some ((d.2.1, d.2.2.1, d.2.2.2.1, d.2.2.2.2.1, d.2.2.2.2.2.1), d.1)
noncomputable def F_spec_BestVec : Fn := ⟨[.val false (.one (.int .i64)) false, .val false (.one (.sl cPt)) false], [.val true cVec true, .val false (.one (.int .i64)) true], fun a => spec_BestVec a.1 a.2⟩
def a_spec_BestVec : List (Nat × LoopAnn) := [(0, ⟨⟨[(8, false, [.dat (.int .i64)]), (9, false, [.dat (.int .i64)]), (29, false, [.undef]), (30, false, [.undef]), (31, false, [.undef]), (32, false, [.undef]), (33, false, [.undef]), (34, false, [.undef]), (52, false, [.undef]), (53, false, [.undef]), (54, false, [.undef]), (55, false, [.undef]), (58, false, [.undef]), (59, false, [.undef]), (60, false, [.undef]), (61, false, [.undef]), (62, false, [.undef]), (63, false, [.undef]), (64, false, [.undef])], [(266240, .box [.dat (.int .i64), .dat (.int .i64), .dat (.int .i64), .dat (.int .i64), .dat (.int .i64)]), (526336, .box [.dat (.int .i64), .dat (.int .i64), .dat (.int .i64), .dat (.int .i64), .dat (.int .i64)])]⟩,
    ⟨[(8, false, [.dat (.int .i64)])], [(266240, .box [.dat (.int .i64), .dat (.int .i64), .dat (.int .i64), .dat (.int .i64), .dat (.int .i64)]), (526336, .box [.dat (.int .i64), .dat (.int .i64), .dat (.int .i64), .dat (.int .i64), .dat (.int .i64)])]⟩, none⟩)]
theorem e_spec_BestVec : fnDen ⟨tis, fns_350, [], false⟩ a_spec_BestVec Tryz.f288 (codeOf Tryz.f288) [.val false (.one (.int .i64)) false, .val false (.one (.sl cPt)) false] [.val true cVec true, .val false (.one (.int .i64)) true] = fun a => spec_BestVec a.1 a.2 := by kernel_rfl
theorem m_spec_BestVec : Meets Tryz.prog 288 F_spec_BestVec := by
  have h := meets_of (ann := a_spec_BestVec) (ps := [.val false (.one (.int .i64)) false, .val false (.one (.sl cPt)) false]) (rs := [.val true cVec true, .val false (.one (.int .i64)) true]) g_350 mixed Tryz.func288 (by kernel_rfl) (by kernel_rfl : Tryz.f288.body = some (codeOf Tryz.f288))
  rw [e_spec_BestVec] at h
  exact h
noncomputable def fns_288 : List (FuncId × Fn) := (288, F_spec_BestVec) :: fns_350
theorem g_288 : Good Tryz.prog ⟨tis, fns_288, [], false⟩ := g_350.cons m_spec_BestVec
noncomputable def spec_SayVec (id0 : Int) (l1 : List Pt) (port2 : Int) : Option Vec :=
  (spec_BestVec id0 l1).bind fun t12 =>
  some (t12.1.1, t12.1.2.1, t12.1.2.2.1, t12.1.2.2.2.1, port2)
noncomputable def F_spec_SayVec : Fn := ⟨[.val false (.one (.int .i64)) false, .val false (.one (.sl cPt)) false, .val false (.one (.int .i64)) false], [.val true cVec true], fun a => spec_SayVec a.1 a.2.1 a.2.2⟩
def a_spec_SayVec : List (Nat × LoopAnn) := []
theorem e_spec_SayVec : fnDen ⟨tis, fns_288, [], false⟩ a_spec_SayVec Tryz.f293 (codeOf Tryz.f293) [.val false (.one (.int .i64)) false, .val false (.one (.sl cPt)) false, .val false (.one (.int .i64)) false] [.val true cVec true] = fun a => spec_SayVec a.1 a.2.1 a.2.2 := by kernel_rfl
theorem m_spec_SayVec : Meets Tryz.prog 293 F_spec_SayVec := by
  have h := meets_of (ann := a_spec_SayVec) (ps := [.val false (.one (.int .i64)) false, .val false (.one (.sl cPt)) false, .val false (.one (.int .i64)) false]) (rs := [.val true cVec true]) g_288 mixed Tryz.func293 (by kernel_rfl) (by kernel_rfl : Tryz.f293.body = some (codeOf Tryz.f293))
  rw [e_spec_SayVec] at h
  exact h
noncomputable def fns_293 : List (FuncId × Fn) := (293, F_spec_SayVec) :: fns_288
theorem g_293 : Good Tryz.prog ⟨tis, fns_293, [], false⟩ := g_288.cons m_spec_SayVec
noncomputable def spec_RoleOf (id0 : Int) (l1 : List Pt) (port2 : Int) : Option Int :=
  (spec_l1In port2 0 (w64 ((l1.length : Int) - 1))).bind fun t13 =>
  (cond (!t13)
    (some true)
    ((at? l1 port2).bind fun x18 =>
    some (!x18.1))).bind fun t22 =>
  cond t22
    (some 4)
    ((spec_BestVec id0 l1).bind fun t26 =>
    cond (t26.2 == port2)
      (some 1)
      ((at? l1 port2).bind fun x36 =>
      (cond (!x36.2.2.1)
        (some true)
        ((spec_SayVec id0 l1 port2).bind fun t44 =>
        (at? l1 port2).bind fun x47 =>
        (spec_LessVec t44 x47.2.2.2).bind fun t50 =>
        some t50)).bind fun t51 =>
      cond t51 (some 2) (some 3)))
noncomputable def F_spec_RoleOf : Fn := ⟨[.val false (.one (.int .i64)) false, .val false (.one (.sl cPt)) false, .val false (.one (.int .i64)) false], [.val false (.one (.int .i64)) true], fun a => spec_RoleOf a.1 a.2.1 a.2.2⟩
def a_spec_RoleOf : List (Nat × LoopAnn) := []
theorem e_spec_RoleOf : fnDen ⟨tis, fns_293, [], false⟩ a_spec_RoleOf Tryz.f180 (codeOf Tryz.f180) [.val false (.one (.int .i64)) false, .val false (.one (.sl cPt)) false, .val false (.one (.int .i64)) false] [.val false (.one (.int .i64)) true] = fun a => spec_RoleOf a.1 a.2.1 a.2.2 := by kernel_rfl
theorem m_spec_RoleOf : Meets Tryz.prog 180 F_spec_RoleOf := by
  have h := meets_of (ann := a_spec_RoleOf) (ps := [.val false (.one (.int .i64)) false, .val false (.one (.sl cPt)) false, .val false (.one (.int .i64)) false]) (rs := [.val false (.one (.int .i64)) true]) g_293 mixed Tryz.func180 (by kernel_rfl) (by kernel_rfl : Tryz.f180.body = some (codeOf Tryz.f180))
  rw [e_spec_RoleOf] at h
  exact h
noncomputable def fns_180 : List (FuncId × Fn) := (180, F_spec_RoleOf) :: fns_293
theorem g_180 : Good Tryz.prog ⟨tis, fns_180, [], false⟩ := g_293.cons m_spec_RoleOf
noncomputable def spec_l17Port (b0 : Bridge) (c1 : Int) (p2 : Int) : Option Int :=
  cond (c1 == 1)
    ((at? b0.2.2.1 p2).bind fun x13 =>
    cond x13.1 (some 1) (some 0))
    (cond (c1 == 2)
      ((at? b0.2.2.1 p2).bind fun x21 =>
      some x21.2.1)
      (cond (c1 == 3)
        ((spec_RoleOf b0.1 b0.2.2.1 p2).bind fun t31 =>
        some t31)
        ((at? b0.2.2.2.2.2.1 p2).bind fun x36 =>
        some x36)))
noncomputable def F_spec_l17Port : Fn := ⟨[.val true cBridge false, .val false (.one (.int .i64)) false, .val false (.one (.int .i64)) false], [.val false (.one (.int .i64)) true], fun a => spec_l17Port a.1 a.2.1 a.2.2⟩
def a_spec_l17Port : List (Nat × LoopAnn) := []
theorem e_spec_l17Port : fnDen ⟨tis, fns_180, [], false⟩ a_spec_l17Port Tryz.f304 (codeOf Tryz.f304) [.val true cBridge false, .val false (.one (.int .i64)) false, .val false (.one (.int .i64)) false] [.val false (.one (.int .i64)) true] = fun a => spec_l17Port a.1 a.2.1 a.2.2 := by kernel_rfl
theorem m_spec_l17Port : Meets Tryz.prog 304 F_spec_l17Port := by
  have h := meets_of (ann := a_spec_l17Port) (ps := [.val true cBridge false, .val false (.one (.int .i64)) false, .val false (.one (.int .i64)) false]) (rs := [.val false (.one (.int .i64)) true]) g_180 mixed Tryz.func304 (by kernel_rfl) (by kernel_rfl : Tryz.f304.body = some (codeOf Tryz.f304))
  rw [e_spec_l17Port] at h
  exact h
noncomputable def fns_304 : List (FuncId × Fn) := (304, F_spec_l17Port) :: fns_180
theorem g_304 : Good Tryz.prog ⟨tis, fns_304, [], false⟩ := g_180.cons m_spec_l17Port
noncomputable def spec_l17Row (r0 : Vrow) (c1 : Int) : Option Int :=
  cond (c1 == 1) (some 1) (cond (c1 == 2) (some r0.2.1) (some r0.2.2))
noncomputable def F_spec_l17Row : Fn := ⟨[.val true cVrow false, .val false (.one (.int .i64)) false], [.val false (.one (.int .i64)) true], fun a => spec_l17Row a.1 a.2⟩
def a_spec_l17Row : List (Nat × LoopAnn) := []
theorem e_spec_l17Row : fnDen ⟨tis, fns_304, [], false⟩ a_spec_l17Row Tryz.f305 (codeOf Tryz.f305) [.val true cVrow false, .val false (.one (.int .i64)) false] [.val false (.one (.int .i64)) true] = fun a => spec_l17Row a.1 a.2 := by kernel_rfl
theorem m_spec_l17Row : Meets Tryz.prog 305 F_spec_l17Row := by
  have h := meets_of (ann := a_spec_l17Row) (ps := [.val true cVrow false, .val false (.one (.int .i64)) false]) (rs := [.val false (.one (.int .i64)) true]) g_304 mixed Tryz.func305 (by kernel_rfl) (by kernel_rfl : Tryz.f305.body = some (codeOf Tryz.f305))
  rw [e_spec_l17Row] at h
  exact h
noncomputable def fns_305 : List (FuncId × Fn) := (305, F_spec_l17Row) :: fns_304
theorem g_305 : Good Tryz.prog ⟨tis, fns_305, [], false⟩ := g_304.cons m_spec_l17Row
noncomputable def spec_MibList_l2 (p0 : Bridge) (t4 : Int) (t5 : Int) (t3_1 : List Bind) : Option ((Int × List Bind) ⊕ (List Bind)) :=
  cond (decide (t5 < (p0.2.2.1.length : Int)))
    ((spec_l17Port p0 t4 t5).bind fun t59 =>
    (spec_l17Add t3_1 [2, t4, w64 (t5 + 1)] t59).bind fun t60 =>
    some (.inl (w64 (t5 + 1), t60)))
    (some (.inr t3_1))
noncomputable def spec_MibList_l0 (p0 : Bridge) (t4 : Int) (t3 : List Bind) : Option ((Int × List Bind) ⊕ (List Bind)) :=
  cond (decide (t4 ≤ 4))
    ((loop (fun z => spec_MibList_l2 p0 t4 z.1 z.2) (0, t3)).bind fun d =>
    some (.inl (w64 (t4 + 1), d)))
    (some (.inr t3))
noncomputable def spec_MibList_l6 (p0 : Bridge) (t6 : Int) (t7 : Int) (t3_5 : List Bind) : Option ((Int × List Bind) ⊕ (List Bind)) :=
  cond (decide (t7 < (p0.2.2.2.2.1.length : Int)))
    ((at? p0.2.2.2.2.1 t7).bind fun x79 =>
    (at? p0.2.2.2.2.1 t7).bind fun x87 =>
    (spec_l17Row x87 t6).bind fun t90 =>
    (spec_l17Add t3_5 [3, t6, x79.1] t90).bind fun t91 =>
    some (.inl (w64 (t7 + 1), t91)))
    (some (.inr t3_5))
noncomputable def spec_MibList_l4 (p0 : Bridge) (t6 : Int) (t3_4 : List Bind) : Option ((Int × List Bind) ⊕ (List Bind)) :=
  cond (decide (t6 ≤ 3))
    ((loop (fun z => spec_MibList_l6 p0 t6 z.1 z.2) (0, t3_4)).bind fun d_2 =>
    some (.inl (w64 (t6 + 1), d_2)))
    (some (.inr t3_4))
noncomputable def spec_MibList_l8 (p0 : Bridge) (t8 : Int) (t3_8 : List Bind) : Option ((Int × List Bind) ⊕ (List Bind)) :=
  cond (decide (t8 < (p0.2.2.2.1.length : Int)))
    ((at? p0.2.2.2.1 t8).bind fun x103 =>
    (at? p0.2.2.2.1 t8).bind fun x109 =>
    (at? p0.2.2.2.1 t8).bind fun x116 =>
    (spec_l17Add t3_8 [4, 1, x103.1, x109.2.1] (w64 (x116.2.2.1 + 1))).bind fun t120 =>
    some (.inl (w64 (t8 + 1), t120)))
    (some (.inr t3_8))
noncomputable def spec_MibList (p0 : Bridge) : Option (List Bind) :=
  (spec_BridgeOk p0).bind fun t10 =>
  cond (!t10)
    (some ([] : List Bind))
    ((spec_l17Name ([1, 1] : List Int)).bind fun t14 =>
    (spec_l17Add ([(t14, 4, 0, p0.2.1, [])]) ([1, 2] : List Int) p0.2.2.2.2.2.2.1).bind fun t24 =>
    (spec_l17Add t24 ([1, 3] : List Int) p0.2.2.2.2.2.2.2.1).bind fun t29 =>
    (spec_l17Add t29 ([1, 4] : List Int) p0.2.2.2.2.2.2.2.2.1).bind fun t34 =>
    (spec_l17Add t34 ([1, 5] : List Int) p0.2.2.2.2.2.2.2.2.2.1).bind fun t39 =>
    (loop (fun z => spec_MibList_l0 p0 z.1 z.2) (1, t39)).bind fun d_1 =>
    (loop (fun z => spec_MibList_l4 p0 z.1 z.2) (1, d_1)).bind fun d_3 =>
    (loop (fun z => spec_MibList_l8 p0 z.1 z.2) (0, d_3)).bind fun d_4 =>
    some d_4)
noncomputable def F_spec_MibList : Fn := ⟨[.val true cBridge false], [.val false (.one (.sl cBind)) true], fun a => spec_MibList a⟩
def a_spec_MibList : List (Nat × LoopAnn) := [(0, ⟨⟨[(3, false, [.own 1000000000]), (4, false, [.dat (.int .i64)])], [(1000000000, .root cBind true)]⟩,
    ⟨[(3, false, [.own 1000000300])], [(1000000300, .root cBind true)]⟩, none⟩),
  (2, ⟨⟨[(3, false, [.own 1000002000]), (5, false, [.dat (.int .i64)])], [(1000002000, .root cBind true)]⟩,
    ⟨[(3, false, [.own 1000002300])], [(1000002300, .root cBind true)]⟩, none⟩),
  (4, ⟨⟨[(3, false, [.own 1000004000]), (6, false, [.dat (.int .i64)])], [(1000004000, .root cBind true)]⟩,
    ⟨[(3, false, [.own 1000004300])], [(1000004300, .root cBind true)]⟩, none⟩),
  (6, ⟨⟨[(3, false, [.own 1000006000]), (7, false, [.dat (.int .i64)])], [(1000006000, .root cBind true)]⟩,
    ⟨[(3, false, [.own 1000006300])], [(1000006300, .root cBind true)]⟩, none⟩),
  (8, ⟨⟨[(3, false, [.own 1000008000]), (8, false, [.dat (.int .i64)])], [(1000008000, .root cBind true)]⟩,
    ⟨[(3, false, [.own 1000008300])], [(1000008300, .root cBind true)]⟩, none⟩)]
theorem e_spec_MibList : fnDen ⟨tis, fns_305, [], false⟩ a_spec_MibList Tryz.f189 (codeOf Tryz.f189) [.val true cBridge false] [.val false (.one (.sl cBind)) true] = fun a => spec_MibList a := by kernel_rfl
theorem m_spec_MibList : Meets Tryz.prog 189 F_spec_MibList := by
  have h := meets_of (ann := a_spec_MibList) (ps := [.val true cBridge false]) (rs := [.val false (.one (.sl cBind)) true]) g_305 mixed Tryz.func189 (by kernel_rfl) (by kernel_rfl : Tryz.f189.body = some (codeOf Tryz.f189))
  rw [e_spec_MibList] at h
  exact h
noncomputable def fns_189 : List (FuncId × Fn) := (189, F_spec_MibList) :: fns_305
theorem g_189 : Good Tryz.prog ⟨tis, fns_189, [], false⟩ := g_305.cons m_spec_MibList
noncomputable def spec_l2Draw_l0 (i4 : Int) (b0 : List Int) (b1 : Int) (b2 : Int) (out3 : List Int) : Option ((Int × List Int × Int × Int × List Int) ⊕ (List Int × Int × Int × List Int)) :=
  cond (decide (i4 > 0))
    ((spec_l1Int (b0, b1, b2) ([0, 1, 2, 3, 127, 128, 16384, 100000] : List Int)).bind fun t16 =>
    (app out3 [t16.2]).bind fun zs18 =>
    some (.inl (w64 (i4 - 1), t16.1.1, t16.1.2.1, t16.1.2.2, zs18)))
    (some (.inr (b0, b1, b2, out3)))
noncomputable def spec_l2Draw (c0 : L1Cur) : Option (L1Cur × List Int) :=
  (spec_l1Below c0 6).bind fun t7 =>
  (loop (fun z => spec_l2Draw_l0 z.1 z.2.1 z.2.2.1 z.2.2.2.1 z.2.2.2.2) (w64 (1 + t7.2), t7.1.1, t7.1.2.1, t7.1.2.2, ([] : List Int))).bind fun d =>
  some ((d.1, d.2.1, d.2.2.1), d.2.2.2)
noncomputable def F_spec_l2Draw : Fn := ⟨[.ptr cL1Cur false], [.val false (.one (.sl (.one (.int .i64)))) true], fun a => spec_l2Draw a⟩
def a_spec_l2Draw : List (Nat × LoopAnn) := [(0, ⟨⟨[(3, false, [.own 1000000000]), (4, false, [.dat (.int .i64)])], [(1, .box [.dat (.sl (.one (.int .u8))), .dat (.int .i64), .dat (.int .i64)]), (1000000000, .root (.one (.int .i64)) true)]⟩,
    ⟨[(3, false, [.own 1000000300])], [(1, .box [.dat (.sl (.one (.int .u8))), .dat (.int .i64), .dat (.int .i64)]), (1000000300, .root (.one (.int .i64)) true)]⟩, none⟩)]
theorem e_spec_l2Draw : fnDen ⟨tis, fns_189, [], false⟩ a_spec_l2Draw Tryz.f191 (codeOf Tryz.f191) [.ptr cL1Cur false] [.val false (.one (.sl (.one (.int .i64)))) true] = fun a => spec_l2Draw a := by kernel_rfl
theorem m_spec_l2Draw : Meets Tryz.prog 191 F_spec_l2Draw := by
  have h := meets_of (ann := a_spec_l2Draw) (ps := [.ptr cL1Cur false]) (rs := [.val false (.one (.sl (.one (.int .i64)))) true]) g_189 mixed Tryz.func191 (by kernel_rfl) (by kernel_rfl : Tryz.f191.body = some (codeOf Tryz.f191))
  rw [e_spec_l2Draw] at h
  exact h
noncomputable def fns_191 : List (FuncId × Fn) := (191, F_spec_l2Draw) :: fns_189
theorem g_191 : Good Tryz.prog ⟨tis, fns_191, [], false⟩ := g_189.cons m_spec_l2Draw
noncomputable def spec_l17Oid (c0 : L1Cur) (b1 : Bridge) : Option (L1Cur × List Int) :=
  (spec_MibList b1).bind fun t7 =>
  cond (decide ((t7.length : Int) > 0))
    ((spec_l1Once c0 4).bind fun t13 =>
    cond (!t13.2)
      ((spec_l1Below t13.1 (t7.length : Int)).bind fun t21 =>
      (ix t7.length t21.2).bind fun j22 =>
      (t7[j22]?).bind fun x24 =>
      (app ([] : List Int) x24.1).bind fun zs25 =>
      some (t21.1, zs25))
      ((spec_l1Below t13.1 8).bind fun t27 =>
      cond (t27.2 == 0)
        (some (t27.1, ([0] : List Int)))
        (cond (t27.2 == 1)
          (some (t27.1, ([1, 3, 1] : List Int)))
          (cond (t27.2 == 2)
            ((spec_l17Name ([2, 2, 9] : List Int)).bind fun t37 =>
            some (t27.1, t37))
            (cond (t27.2 == 3)
              ((spec_l1Below t27.1 9).bind fun t41 =>
              (spec_l17Name [3, 1, w64 (1 + t41.2)]).bind fun t44 =>
              some (t41.1, t44))
              (cond (t27.2 == 4)
                ((spec_l17Name ([2, 2] : List Int)).bind fun t48 =>
                some (t27.1, t48))
                (cond (t27.2 == 5)
                  ((spec_l17Name ([9] : List Int)).bind fun t52 =>
                  some (t27.1, t52))
                  (cond (t27.2 == 6)
                    ((spec_l17Name ([4, 1, 2, 11] : List Int)).bind fun t56 =>
                    some (t27.1, t56))
                    ((spec_l2Draw t27.1).bind fun t58 =>
                    some t58)))))))))
    ((spec_l1Below c0 8).bind fun t27_1 =>
    cond (t27_1.2 == 0)
      (some (t27_1.1, ([0] : List Int)))
      (cond (t27_1.2 == 1)
        (some (t27_1.1, ([1, 3, 1] : List Int)))
        (cond (t27_1.2 == 2)
          ((spec_l17Name ([2, 2, 9] : List Int)).bind fun t37_1 =>
          some (t27_1.1, t37_1))
          (cond (t27_1.2 == 3)
            ((spec_l1Below t27_1.1 9).bind fun t41_1 =>
            (spec_l17Name [3, 1, w64 (1 + t41_1.2)]).bind fun t44_1 =>
            some (t41_1.1, t44_1))
            (cond (t27_1.2 == 4)
              ((spec_l17Name ([2, 2] : List Int)).bind fun t48_1 =>
              some (t27_1.1, t48_1))
              (cond (t27_1.2 == 5)
                ((spec_l17Name ([9] : List Int)).bind fun t52_1 =>
                some (t27_1.1, t52_1))
                (cond (t27_1.2 == 6)
                  ((spec_l17Name ([4, 1, 2, 11] : List Int)).bind fun t56_1 =>
                  some (t27_1.1, t56_1))
                  ((spec_l2Draw t27_1.1).bind fun t58_1 =>
                  some t58_1))))))))
noncomputable def F_spec_l17Oid : Fn := ⟨[.ptr cL1Cur false, .val true cBridge false], [.val false (.one (.sl (.one (.int .i64)))) true], fun a => spec_l17Oid a.1 a.2⟩
def a_spec_l17Oid : List (Nat × LoopAnn) := []
theorem e_spec_l17Oid : fnDen ⟨tis, fns_191, [], false⟩ a_spec_l17Oid Tryz.f79 (codeOf Tryz.f79) [.ptr cL1Cur false, .val true cBridge false] [.val false (.one (.sl (.one (.int .i64)))) true] = fun a => spec_l17Oid a.1 a.2 := by kernel_rfl
theorem m_spec_l17Oid : Meets Tryz.prog 79 F_spec_l17Oid := by
  have h := meets_of (ann := a_spec_l17Oid) (ps := [.ptr cL1Cur false, .val true cBridge false]) (rs := [.val false (.one (.sl (.one (.int .i64)))) true]) g_191 mixed Tryz.func79 (by kernel_rfl) (by kernel_rfl : Tryz.f79.body = some (codeOf Tryz.f79))
  rw [e_spec_l17Oid] at h
  exact h
noncomputable def fns_79 : List (FuncId × Fn) := (79, F_spec_l17Oid) :: fns_191
theorem g_79 : Good Tryz.prog ⟨tis, fns_79, [], false⟩ := g_191.cons m_spec_l17Oid
noncomputable def spec_DrawNamed (code0 : List Int) : Option (Bridge × List Int) :=
  (spec_l1New code0).bind fun t7 =>
  (spec_l11Draw t7).bind fun t9 =>
  (spec_l17Oid t9.1 t9.2).bind fun t13 =>
  some (t9.2, t13.2)
noncomputable def F_spec_DrawNamed : Fn := ⟨[.val false (.one (.sl (.one (.int .u8)))) false], [.val true cBridge false, .val false (.one (.sl (.one (.int .i64)))) true], fun a => spec_DrawNamed a⟩
def a_spec_DrawNamed : List (Nat × LoopAnn) := []
theorem e_spec_DrawNamed : fnDen ⟨tis, fns_79, [], false⟩ a_spec_DrawNamed Tryz.f14 (codeOf Tryz.f14) [.val false (.one (.sl (.one (.int .u8)))) false] [.val true cBridge false, .val false (.one (.sl (.one (.int .i64)))) true] = fun a => spec_DrawNamed a := by kernel_rfl
theorem m_spec_DrawNamed : Meets Tryz.prog 14 F_spec_DrawNamed := by
  have h := meets_of (ann := a_spec_DrawNamed) (ps := [.val false (.one (.sl (.one (.int .u8)))) false]) (rs := [.val true cBridge false, .val false (.one (.sl (.one (.int .i64)))) true]) g_79 mixed Tryz.func14 (by kernel_rfl) (by kernel_rfl : Tryz.f14.body = some (codeOf Tryz.f14))
  rw [e_spec_DrawNamed] at h
  exact h
noncomputable def fns_14 : List (FuncId × Fn) := (14, F_spec_DrawNamed) :: fns_79
theorem g_14 : Good Tryz.prog ⟨tis, fns_14, [], false⟩ := g_79.cons m_spec_DrawNamed
noncomputable def laws_at (code0 : List Int) (i1 : Int) : Option Int :=
  cond (decide (i1 < (code0.length : Int)))
    ((at? code0 i1).bind fun x11 =>
    some (w64 (x11)))
    (let t4 := (w64 ((w64 (i1 * 31)) + (w64 ((code0.length : Int) * 7)))).tmod 256
    some t4)
noncomputable def F_laws_at : Fn := ⟨[.val false (.one (.sl (.one (.int .u8)))) false, .val false (.one (.int .i64)) false], [.val false (.one (.int .i64)) true], fun a => laws_at a.1 a.2⟩
def a_laws_at : List (Nat × LoopAnn) := []
theorem e_laws_at : fnDen ⟨tis, fns_14, [], false⟩ a_laws_at Tryz.f15 (codeOf Tryz.f15) [.val false (.one (.sl (.one (.int .u8)))) false, .val false (.one (.int .i64)) false] [.val false (.one (.int .i64)) true] = fun a => laws_at a.1 a.2 := by kernel_rfl
theorem m_laws_at : Meets Tryz.prog 15 F_laws_at := by
  have h := meets_of (ann := a_laws_at) (ps := [.val false (.one (.sl (.one (.int .u8)))) false, .val false (.one (.int .i64)) false]) (rs := [.val false (.one (.int .i64)) true]) g_14 mixed Tryz.func15 (by kernel_rfl) (by kernel_rfl : Tryz.f15.body = some (codeOf Tryz.f15))
  rw [e_laws_at] at h
  exact h
noncomputable def fns_15 : List (FuncId × Fn) := (15, F_laws_at) :: fns_14
theorem g_15 : Good Tryz.prog ⟨tis, fns_15, [], false⟩ := g_14.cons m_laws_at
noncomputable def impl_copyInts (l0 : List Int) : Option (List Int) :=
  (app [] l0).bind fun zs4 =>
  some zs4
noncomputable def F_impl_copyInts : Fn := ⟨[.val false (.one (.sl (.one (.int .i64)))) false], [.val false (.one (.sl (.one (.int .i64)))) true], fun a => impl_copyInts a⟩
def a_impl_copyInts : List (Nat × LoopAnn) := []
theorem e_impl_copyInts : fnDen ⟨tis, fns_15, [], false⟩ a_impl_copyInts Tryz.f82 (codeOf Tryz.f82) [.val false (.one (.sl (.one (.int .i64)))) false] [.val false (.one (.sl (.one (.int .i64)))) true] = fun a => impl_copyInts a := by kernel_rfl
theorem m_impl_copyInts : Meets Tryz.prog 82 F_impl_copyInts := by
  have h := meets_of (ann := a_impl_copyInts) (ps := [.val false (.one (.sl (.one (.int .i64)))) false]) (rs := [.val false (.one (.sl (.one (.int .i64)))) true]) g_15 mixed Tryz.func82 (by kernel_rfl) (by kernel_rfl : Tryz.f82.body = some (codeOf Tryz.f82))
  rw [e_impl_copyInts] at h
  exact h
noncomputable def fns_82 : List (FuncId × Fn) := (82, F_impl_copyInts) :: fns_15
theorem g_82 : Good Tryz.prog ⟨tis, fns_82, [], false⟩ := g_15.cons m_impl_copyInts
noncomputable def impl_in (n0 : Int) (low1 : Int) (high2 : Int) : Option Bool :=
  (cond (decide (n0 ≥ low1)) (some (decide (n0 ≤ high2))) (some false)).bind fun t14 =>
  some t14
noncomputable def F_impl_in : Fn := ⟨[.val false (.one (.int .i64)) false, .val false (.one (.int .i64)) false, .val false (.one (.int .i64)) false], [.val false (.one .bool) true], fun a => impl_in a.1 a.2.1 a.2.2⟩
def a_impl_in : List (Nat × LoopAnn) := []
theorem e_impl_in : fnDen ⟨tis, fns_82, [], false⟩ a_impl_in Tryz.f85 (codeOf Tryz.f85) [.val false (.one (.int .i64)) false, .val false (.one (.int .i64)) false, .val false (.one (.int .i64)) false] [.val false (.one .bool) true] = fun a => impl_in a.1 a.2.1 a.2.2 := by kernel_rfl
theorem m_impl_in : Meets Tryz.prog 85 F_impl_in := by
  have h := meets_of (ann := a_impl_in) (ps := [.val false (.one (.int .i64)) false, .val false (.one (.int .i64)) false, .val false (.one (.int .i64)) false]) (rs := [.val false (.one .bool) true]) g_82 mixed Tryz.func85 (by kernel_rfl) (by kernel_rfl : Tryz.f85.body = some (codeOf Tryz.f85))
  rw [e_impl_in] at h
  exact h
noncomputable def fns_85 : List (FuncId × Fn) := (85, F_impl_in) :: fns_82
theorem g_85 : Good Tryz.prog ⟨tis, fns_85, [], false⟩ := g_82.cons m_impl_in
noncomputable def impl_allPorts (ports0 : Int) : Option Int :=
  (shl .i64 1 ports0).bind fun t4 =>
  some (w64 (t4 - 1))
noncomputable def F_impl_allPorts : Fn := ⟨[.val false (.one (.int .i64)) false], [.val false (.one (.int .i64)) true], fun a => impl_allPorts a⟩
def a_impl_allPorts : List (Nat × LoopAnn) := []
theorem e_impl_allPorts : fnDen ⟨tis, fns_85, [], false⟩ a_impl_allPorts Tryz.f206 (codeOf Tryz.f206) [.val false (.one (.int .i64)) false] [.val false (.one (.int .i64)) true] = fun a => impl_allPorts a := by kernel_rfl
theorem m_impl_allPorts : Meets Tryz.prog 206 F_impl_allPorts := by
  have h := meets_of (ann := a_impl_allPorts) (ps := [.val false (.one (.int .i64)) false]) (rs := [.val false (.one (.int .i64)) true]) g_85 mixed Tryz.func206 (by kernel_rfl) (by kernel_rfl : Tryz.f206.body = some (codeOf Tryz.f206))
  rw [e_impl_allPorts] at h
  exact h
noncomputable def fns_206 : List (FuncId × Fn) := (206, F_impl_allPorts) :: fns_85
theorem g_206 : Good Tryz.prog ⟨tis, fns_206, [], false⟩ := g_85.cons m_impl_allPorts
noncomputable def impl_RowAt_l0 (v0 : Vtab) (id1 : Int) (t10 : Int) : Option (Int ⊕ (Unit ⊕ Int)) :=
  cond (decide (t10 < (v0.1.length : Int)))
    ((at? v0.1 t10).bind fun x13 =>
    cond (x13.1 == id1) (some (.inr (.inr t10))) (some (.inl (w64 (t10 + 1)))))
    (some (.inr (.inl ())))
noncomputable def impl_RowAt (v0 : Vtab) (id1 : Int) : Option Int :=
  (loop (fun z => impl_RowAt_l0 v0 id1 z) 0).bind (Sum.elim (fun d =>
    some (-1)) (fun r => some r))
noncomputable def F_impl_RowAt : Fn := ⟨[.val true cVtab false, .val false (.one (.int .i64)) false], [.val false (.one (.int .i64)) true], fun a => impl_RowAt a.1 a.2⟩
def a_impl_RowAt : List (Nat × LoopAnn) := [(0, ⟨⟨[(10, false, [.dat (.int .i64)])], []⟩,
    ⟨[], []⟩, some ⟨[(4, false, [.dat (.int .i64)])], []⟩⟩)]
theorem e_impl_RowAt : fnDen ⟨tis, fns_206, [], false⟩ a_impl_RowAt Tryz.f207 (codeOf Tryz.f207) [.val true cVtab false, .val false (.one (.int .i64)) false] [.val false (.one (.int .i64)) true] = fun a => impl_RowAt a.1 a.2 := by kernel_rfl
theorem m_impl_RowAt : Meets Tryz.prog 207 F_impl_RowAt := by
  have h := meets_of (ann := a_impl_RowAt) (ps := [.val true cVtab false, .val false (.one (.int .i64)) false]) (rs := [.val false (.one (.int .i64)) true]) g_206 mixed Tryz.func207 (by kernel_rfl) (by kernel_rfl : Tryz.f207.body = some (codeOf Tryz.f207))
  rw [e_impl_RowAt] at h
  exact h
noncomputable def fns_207 : List (FuncId × Fn) := (207, F_impl_RowAt) :: fns_206
theorem g_207 : Good Tryz.prog ⟨tis, fns_207, [], false⟩ := g_206.cons m_impl_RowAt
noncomputable def impl_VtabOk_l0 (p0 : Vtab) (i1 : Int) (t28 : Int) : Option (Int ⊕ (Unit ⊕ Bool)) :=
  cond (decide (t28 < (p0.1.length : Int)))
    ((at? p0.1 t28).bind fun x31 =>
    (impl_in x31.1 1 99).bind fun t35 =>
    (cond (!t35)
      (some true)
      ((cond (decide (t28 > 0))
        ((at? p0.1 (w64 (t28 - 1))).bind fun x45 =>
        some (decide (x45.1 ≥ x31.1)))
        (some false)).bind fun t51 =>
      some t51)).bind fun t52 =>
    (cond t52
      (some true)
      ((impl_allPorts i1).bind fun t57 =>
      (impl_in x31.2.1 0 t57).bind fun t58 =>
      some (!t58))).bind fun t60 =>
    (cond t60 (some true) (some ((bclr .i64 x31.2.2 x31.2.1) != 0))).bind fun t68 =>
    cond t68 (some (.inr (.inr false))) (some (.inl (w64 (t28 + 1)))))
    (some (.inr (.inl ())))
noncomputable def impl_VtabOk_l2 (p0 : Vtab) (t73 : Int) : Option (Int ⊕ (Unit ⊕ Bool)) :=
  cond (decide (t73 < (p0.2.length : Int)))
    ((at? p0.2 t73).bind fun x75 =>
    (impl_RowAt p0 x75).bind fun t79 =>
    cond (decide (t79 < 0)) (some (.inr (.inr false))) (some (.inl (w64 (t73 + 1)))))
    (some (.inr (.inl ())))
noncomputable def impl_VtabOk (p0 : Vtab) (i1 : Int) : Option Bool :=
  (impl_in i1 1 6).bind fun t10 =>
  (cond (!t10) (some true) (some ((p0.2.length : Int) != i1))).bind fun t18 =>
  (cond t18 (some true) (some (decide ((p0.1.length : Int) > 6)))).bind fun t24 =>
  cond t24
    (some false)
    ((loop (fun z => impl_VtabOk_l0 p0 i1 z) 0).bind (Sum.elim (fun d =>
      (loop (fun z => impl_VtabOk_l2 p0 z) 0).bind (Sum.elim (fun d_1 =>
        some true) (fun r => some r))) (fun r_1 => some r_1)))
noncomputable def F_impl_VtabOk : Fn := ⟨[.val true cVtab false, .val false (.one (.int .i64)) false], [.val false (.one .bool) true], fun a => impl_VtabOk a.1 a.2⟩
def a_impl_VtabOk : List (Nat × LoopAnn) := [(0, ⟨⟨[(28, false, [.dat (.int .i64)]), (38, false, [.undef]), (39, false, [.undef]), (40, false, [.undef]), (41, false, [.undef]), (42, false, [.undef]), (43, false, [.undef]), (44, false, [.undef]), (45, false, [.undef]), (46, false, [.undef]), (47, false, [.undef]), (48, false, [.undef]), (49, false, [.undef]), (50, false, [.undef]), (51, false, [.undef]), (54, false, [.undef]), (55, false, [.undef]), (56, false, [.undef]), (57, false, [.undef]), (58, false, [.undef]), (59, false, [.undef]), (62, false, [.undef]), (63, false, [.undef]), (64, false, [.undef]), (65, false, [.undef]), (66, false, [.undef]), (67, false, [.undef])], []⟩,
    ⟨[], []⟩, some ⟨[(4, false, [.dat .bool])], []⟩⟩),
  (2, ⟨⟨[(73, false, [.dat (.int .i64)])], []⟩,
    ⟨[], []⟩, some ⟨[(4, false, [.dat .bool])], []⟩⟩)]
theorem e_impl_VtabOk : fnDen ⟨tis, fns_207, [], false⟩ a_impl_VtabOk Tryz.f91 (codeOf Tryz.f91) [.val true cVtab false, .val false (.one (.int .i64)) false] [.val false (.one .bool) true] = fun a => impl_VtabOk a.1 a.2 := by kernel_rfl
theorem m_impl_VtabOk : Meets Tryz.prog 91 F_impl_VtabOk := by
  have h := meets_of (ann := a_impl_VtabOk) (ps := [.val true cVtab false, .val false (.one (.int .i64)) false]) (rs := [.val false (.one .bool) true]) g_207 mixed Tryz.func91 (by kernel_rfl) (by kernel_rfl : Tryz.f91.body = some (codeOf Tryz.f91))
  rw [e_impl_VtabOk] at h
  exact h
noncomputable def fns_91 : List (FuncId × Fn) := (91, F_impl_VtabOk) :: fns_207
theorem g_91 : Good Tryz.prog ⟨tis, fns_91, [], false⟩ := g_207.cons m_impl_VtabOk
noncomputable def impl_VecOk (v0 : Vec) : Option Bool :=
  (impl_in v0.1 1 99).bind fun t5 =>
  (cond t5
    ((impl_in v0.2.1 0 100000).bind fun t9 =>
    some t9)
    (some false)).bind fun t10 =>
  (cond t10
    ((impl_in v0.2.2.1 0 10).bind fun t14 =>
    some t14)
    (some false)).bind fun t15 =>
  (cond t15
    ((impl_in v0.2.2.2.1 1 99).bind fun t19 =>
    some t19)
    (some false)).bind fun t20 =>
  (cond t20
    ((impl_in v0.2.2.2.2 0 7).bind fun t24 =>
    some t24)
    (some false)).bind fun t25 =>
  some t25
noncomputable def F_impl_VecOk : Fn := ⟨[.val true cVec false], [.val false (.one .bool) true], fun a => impl_VecOk a⟩
def a_impl_VecOk : List (Nat × LoopAnn) := []
theorem e_impl_VecOk : fnDen ⟨tis, fns_91, [], false⟩ a_impl_VecOk Tryz.f163 (codeOf Tryz.f163) [.val true cVec false] [.val false (.one .bool) true] = fun a => impl_VecOk a := by kernel_rfl
theorem m_impl_VecOk : Meets Tryz.prog 163 F_impl_VecOk := by
  have h := meets_of (ann := a_impl_VecOk) (ps := [.val true cVec false]) (rs := [.val false (.one .bool) true]) g_91 mixed Tryz.func163 (by kernel_rfl) (by kernel_rfl : Tryz.f163.body = some (codeOf Tryz.f163))
  rw [e_impl_VecOk] at h
  exact h
noncomputable def fns_163 : List (FuncId × Fn) := (163, F_impl_VecOk) :: fns_91
theorem g_163 : Good Tryz.prog ⟨tis, fns_163, [], false⟩ := g_91.cons m_impl_VecOk
noncomputable def impl_PtOk (p0 : Pt) : Option Bool :=
  (impl_in p0.2.1 1 1000).bind fun t5 =>
  (cond (!t5)
    (some true)
    ((cond p0.2.2.1 (some (!p0.1)) (some false)).bind fun t14 =>
    some t14)).bind fun t15 =>
  cond t15
    (some false)
    (cond p0.2.2.1
      ((impl_VecOk p0.2.2.2).bind fun t20 =>
      some t20)
      (let t2 := p0.2.2.2.1 == 0 && (p0.2.2.2.2.1 == 0 && (p0.2.2.2.2.2.1 == 0 && (p0.2.2.2.2.2.2.1 == 0 && (p0.2.2.2.2.2.2.2 == 0))))
      some t2))
noncomputable def F_impl_PtOk : Fn := ⟨[.val true cPt false], [.val false (.one .bool) true], fun a => impl_PtOk a⟩
def a_impl_PtOk : List (Nat × LoopAnn) := []
theorem e_impl_PtOk : fnDen ⟨tis, fns_163, [], false⟩ a_impl_PtOk Tryz.f100 (codeOf Tryz.f100) [.val true cPt false] [.val false (.one .bool) true] = fun a => impl_PtOk a := by kernel_rfl
theorem m_impl_PtOk : Meets Tryz.prog 100 F_impl_PtOk := by
  have h := meets_of (ann := a_impl_PtOk) (ps := [.val true cPt false]) (rs := [.val false (.one .bool) true]) g_163 mixed Tryz.func100 (by kernel_rfl) (by kernel_rfl : Tryz.f100.body = some (codeOf Tryz.f100))
  rw [e_impl_PtOk] at h
  exact h
noncomputable def fns_100 : List (FuncId × Fn) := (100, F_impl_PtOk) :: fns_163
theorem g_100 : Good Tryz.prog ⟨tis, fns_100, [], false⟩ := g_163.cons m_impl_PtOk
noncomputable def impl_fentOk (e0 : Fent) : Option Bool :=
  (impl_in e0.1 1 99).bind fun t5 =>
  (cond t5
    ((impl_in e0.2.1 1 9999).bind fun t9 =>
    some t9)
    (some false)).bind fun t10 =>
  (cond t10
    ((impl_in e0.2.2.1 0 7).bind fun t14 =>
    some t14)
    (some false)).bind fun t15 =>
  (cond t15
    ((impl_in e0.2.2.2.1 0 4).bind fun t19 =>
    some t19)
    (some false)).bind fun t20 =>
  (cond t20
    ((cond (!e0.2.2.2.2) (some true) (some (e0.2.2.2.1 == 0))).bind fun t29 =>
    some t29)
    (some false)).bind fun t30 =>
  some t30
noncomputable def F_impl_fentOk : Fn := ⟨[.val true cFent false], [.val false (.one .bool) true], fun a => impl_fentOk a⟩
def a_impl_fentOk : List (Nat × LoopAnn) := []
theorem e_impl_fentOk : fnDen ⟨tis, fns_100, [], false⟩ a_impl_fentOk Tryz.f224 (codeOf Tryz.f224) [.val true cFent false] [.val false (.one .bool) true] = fun a => impl_fentOk a := by kernel_rfl
theorem m_impl_fentOk : Meets Tryz.prog 224 F_impl_fentOk := by
  have h := meets_of (ann := a_impl_fentOk) (ps := [.val true cFent false]) (rs := [.val false (.one .bool) true]) g_100 mixed Tryz.func224 (by kernel_rfl) (by kernel_rfl : Tryz.f224.body = some (codeOf Tryz.f224))
  rw [e_impl_fentOk] at h
  exact h
noncomputable def fns_224 : List (FuncId × Fn) := (224, F_impl_fentOk) :: fns_100
theorem g_224 : Good Tryz.prog ⟨tis, fns_224, [], false⟩ := g_100.cons m_impl_fentOk
noncomputable def impl_behind (e0 : Fent) (tag1 : Int) (mac2 : Int) : Option Bool :=
  (cond (decide (e0.1 > tag1))
    (some true)
    ((cond (e0.1 == tag1) (some (decide (e0.2.1 > mac2))) (some false)).bind fun t21 =>
    some t21)).bind fun t22 =>
  some t22
noncomputable def F_impl_behind : Fn := ⟨[.val true cFent false, .val false (.one (.int .i64)) false, .val false (.one (.int .i64)) false], [.val false (.one .bool) true], fun a => impl_behind a.1 a.2.1 a.2.2⟩
def a_impl_behind : List (Nat × LoopAnn) := []
theorem e_impl_behind : fnDen ⟨tis, fns_224, [], false⟩ a_impl_behind Tryz.f225 (codeOf Tryz.f225) [.val true cFent false, .val false (.one (.int .i64)) false, .val false (.one (.int .i64)) false] [.val false (.one .bool) true] = fun a => impl_behind a.1 a.2.1 a.2.2 := by kernel_rfl
theorem m_impl_behind : Meets Tryz.prog 225 F_impl_behind := by
  have h := meets_of (ann := a_impl_behind) (ps := [.val true cFent false, .val false (.one (.int .i64)) false, .val false (.one (.int .i64)) false]) (rs := [.val false (.one .bool) true]) g_224 mixed Tryz.func225 (by kernel_rfl) (by kernel_rfl : Tryz.f225.body = some (codeOf Tryz.f225))
  rw [e_impl_behind] at h
  exact h
noncomputable def fns_225 : List (FuncId × Fn) := (225, F_impl_behind) :: fns_224
theorem g_225 : Good Tryz.prog ⟨tis, fns_225, [], false⟩ := g_224.cons m_impl_behind
noncomputable def impl_FdbOk_l0 (l0 : List Fent) (t7 : Int) : Option (Int ⊕ (Unit ⊕ Bool)) :=
  cond (decide (t7 < (l0.length : Int)))
    ((at? l0 t7).bind fun x10 =>
    (impl_fentOk x10).bind fun t13 =>
    (cond (!t13)
      (some true)
      ((cond (decide (t7 > 0))
        ((at? l0 (w64 (t7 - 1))).bind fun x23 =>
        (at? l0 (w64 (t7 - 1))).bind fun x29 =>
        (impl_behind x10 x23.1 x29.2.1).bind fun t32 =>
        some (!t32))
        (some false)).bind fun t34 =>
      some t34)).bind fun t35 =>
    cond t35 (some (.inr (.inr false))) (some (.inl (w64 (t7 + 1)))))
    (some (.inr (.inl ())))
noncomputable def impl_FdbOk (l0 : List Fent) : Option Bool :=
  (loop (fun z => impl_FdbOk_l0 l0 z) 0).bind (Sum.elim (fun d =>
    let t2 := decide ((l0.length : Int) ≤ 12)
    some t2) (fun r => some r))
noncomputable def F_impl_FdbOk : Fn := ⟨[.val false (.one (.sl cFent)) false], [.val false (.one .bool) true], fun a => impl_FdbOk a⟩
def a_impl_FdbOk : List (Nat × LoopAnn) := [(0, ⟨⟨[(7, false, [.dat (.int .i64)]), (16, false, [.undef]), (17, false, [.undef]), (18, false, [.undef]), (19, false, [.undef]), (20, false, [.undef]), (21, false, [.undef]), (22, false, [.undef]), (23, false, [.undef]), (24, false, [.undef]), (25, false, [.undef]), (26, false, [.undef]), (27, false, [.undef]), (28, false, [.undef]), (29, false, [.undef]), (30, false, [.undef]), (31, false, [.undef]), (32, false, [.undef]), (33, false, [.undef]), (34, false, [.undef])], []⟩,
    ⟨[], []⟩, some ⟨[(2, false, [.dat .bool])], []⟩⟩)]
theorem e_impl_FdbOk : fnDen ⟨tis, fns_225, [], false⟩ a_impl_FdbOk Tryz.f101 (codeOf Tryz.f101) [.val false (.one (.sl cFent)) false] [.val false (.one .bool) true] = fun a => impl_FdbOk a := by kernel_rfl
theorem m_impl_FdbOk : Meets Tryz.prog 101 F_impl_FdbOk := by
  have h := meets_of (ann := a_impl_FdbOk) (ps := [.val false (.one (.sl cFent)) false]) (rs := [.val false (.one .bool) true]) g_225 mixed Tryz.func101 (by kernel_rfl) (by kernel_rfl : Tryz.f101.body = some (codeOf Tryz.f101))
  rw [e_impl_FdbOk] at h
  exact h
noncomputable def fns_101 : List (FuncId × Fn) := (101, F_impl_FdbOk) :: fns_225
theorem g_101 : Good Tryz.prog ⟨tis, fns_101, [], false⟩ := g_225.cons m_impl_FdbOk
noncomputable def impl_isCount (n0 : Int) : Option Bool :=
  (impl_in n0 0 1000000).bind fun t4 =>
  some t4
noncomputable def F_impl_isCount : Fn := ⟨[.val false (.one (.int .i64)) false], [.val false (.one .bool) true], fun a => impl_isCount a⟩
def a_impl_isCount : List (Nat × LoopAnn) := []
theorem e_impl_isCount : fnDen ⟨tis, fns_101, [], false⟩ a_impl_isCount Tryz.f102 (codeOf Tryz.f102) [.val false (.one (.int .i64)) false] [.val false (.one .bool) true] = fun a => impl_isCount a := by kernel_rfl
theorem m_impl_isCount : Meets Tryz.prog 102 F_impl_isCount := by
  have h := meets_of (ann := a_impl_isCount) (ps := [.val false (.one (.int .i64)) false]) (rs := [.val false (.one .bool) true]) g_101 mixed Tryz.func102 (by kernel_rfl) (by kernel_rfl : Tryz.f102.body = some (codeOf Tryz.f102))
  rw [e_impl_isCount] at h
  exact h
noncomputable def fns_102 : List (FuncId × Fn) := (102, F_impl_isCount) :: fns_101
theorem g_102 : Good Tryz.prog ⟨tis, fns_102, [], false⟩ := g_101.cons m_impl_isCount
noncomputable def impl_BridgeOk_l0 (p0 : Bridge) (t8 : Int) : Option (Int ⊕ (Unit ⊕ Bool)) :=
  cond (decide (t8 < (p0.2.2.1.length : Int)))
    ((at? p0.2.2.1 t8).bind fun x10 =>
    (impl_PtOk x10).bind fun t13 =>
    cond (!t13) (some (.inr (.inr false))) (some (.inl (w64 (t8 + 1)))))
    (some (.inr (.inl ())))
noncomputable def impl_BridgeOk (p0 : Bridge) : Option Bool :=
  (loop (fun z => impl_BridgeOk_l0 p0 z) 0).bind (Sum.elim (fun d =>
    (impl_in p0.1 1 99).bind fun t18 =>
    (cond (!t18) (some true) (some (decide ((p0.2.1.length : Int) > 10)))).bind fun t25 =>
    (cond t25
      (some true)
      ((impl_in (p0.2.2.1.length : Int) 1 6).bind fun t30 =>
      some (!t30))).bind fun t32 =>
    (cond t32
      (some true)
      ((impl_FdbOk p0.2.2.2.1).bind fun t36 =>
      some (!t36))).bind fun t38 =>
    (cond t38
      (some true)
      ((impl_VtabOk (p0.2.2.2.2.1, p0.2.2.2.2.2.1) (p0.2.2.1.length : Int)).bind fun t45 =>
      some (!t45))).bind fun t47 =>
    cond t47
      (some false)
      ((impl_isCount p0.2.2.2.2.2.2.1).bind fun t50 =>
      (cond t50
        ((impl_isCount p0.2.2.2.2.2.2.2.1).bind fun t54 =>
        some t54)
        (some false)).bind fun t55 =>
      (cond t55
        ((impl_isCount p0.2.2.2.2.2.2.2.2.1).bind fun t59 =>
        some t59)
        (some false)).bind fun t60 =>
      (cond t60
        ((impl_isCount p0.2.2.2.2.2.2.2.2.2.1).bind fun t64 =>
        some t64)
        (some false)).bind fun t65 =>
      (cond t65
        ((impl_isCount p0.2.2.2.2.2.2.2.2.2.2).bind fun t69 =>
        some t69)
        (some false)).bind fun t70 =>
      some t70)) (fun r => some r))
noncomputable def F_impl_BridgeOk : Fn := ⟨[.val true cBridge false], [.val false (.one .bool) true], fun a => impl_BridgeOk a⟩
def a_impl_BridgeOk : List (Nat × LoopAnn) := [(0, ⟨⟨[(8, false, [.dat (.int .i64)])], []⟩,
    ⟨[], []⟩, some ⟨[(2, false, [.dat .bool])], []⟩⟩)]
theorem e_impl_BridgeOk : fnDen ⟨tis, fns_102, [], false⟩ a_impl_BridgeOk Tryz.f27 (codeOf Tryz.f27) [.val true cBridge false] [.val false (.one .bool) true] = fun a => impl_BridgeOk a := by kernel_rfl
theorem m_impl_BridgeOk : Meets Tryz.prog 27 F_impl_BridgeOk := by
  have h := meets_of (ann := a_impl_BridgeOk) (ps := [.val true cBridge false]) (rs := [.val false (.one .bool) true]) g_102 mixed Tryz.func27 (by kernel_rfl) (by kernel_rfl : Tryz.f27.body = some (codeOf Tryz.f27))
  rw [e_impl_BridgeOk] at h
  exact h
noncomputable def fns_27 : List (FuncId × Fn) := (27, F_impl_BridgeOk) :: fns_102
theorem g_27 : Good Tryz.prog ⟨tis, fns_27, [], false⟩ := g_102.cons m_impl_BridgeOk
noncomputable def impl_thing (v0 : Val) (name1 : List Int) : Option Bind :=
  (app ([1, 3, 1] : List Int) name1).bind fun zs7 =>
  some (zs7, v0.1, v0.2.1, v0.2.2.1, v0.2.2.2)
noncomputable def F_impl_thing : Fn := ⟨[.val true cVal false, .val false (.one (.sl (.one (.int .i64)))) false], [.val true cBind false], fun a => impl_thing a.1 a.2⟩
def a_impl_thing : List (Nat × LoopAnn) := []
theorem e_impl_thing : fnDen ⟨tis, fns_27, [], false⟩ a_impl_thing Tryz.f198 (codeOf Tryz.f198) [.val true cVal false, .val false (.one (.sl (.one (.int .i64)))) false] [.val true cBind false] = fun a => impl_thing a.1 a.2 := by kernel_rfl
theorem m_impl_thing : Meets Tryz.prog 198 F_impl_thing := by
  have h := meets_of (ann := a_impl_thing) (ps := [.val true cVal false, .val false (.one (.sl (.one (.int .i64)))) false]) (rs := [.val true cBind false]) g_27 mixed Tryz.func198 (by kernel_rfl) (by kernel_rfl : Tryz.f198.body = some (codeOf Tryz.f198))
  rw [e_impl_thing] at h
  exact h
noncomputable def fns_198 : List (FuncId × Fn) := (198, F_impl_thing) :: fns_27
theorem g_198 : Good Tryz.prog ⟨tis, fns_198, [], false⟩ := g_27.cons m_impl_thing
noncomputable def impl_number (n0 : Int) : Option Val :=
  some (2, n0, [], [])
noncomputable def F_impl_number : Fn := ⟨[.val false (.one (.int .i64)) false], [.val true cVal true], fun a => impl_number a⟩
def a_impl_number : List (Nat × LoopAnn) := []
theorem e_impl_number : fnDen ⟨tis, fns_198, [], false⟩ a_impl_number Tryz.f199 (codeOf Tryz.f199) [.val false (.one (.int .i64)) false] [.val true cVal true] = fun a => impl_number a := by kernel_rfl
theorem m_impl_number : Meets Tryz.prog 199 F_impl_number := by
  have h := meets_of (ann := a_impl_number) (ps := [.val false (.one (.int .i64)) false]) (rs := [.val true cVal true]) g_198 mixed Tryz.func199 (by kernel_rfl) (by kernel_rfl : Tryz.f199.body = some (codeOf Tryz.f199))
  rw [e_impl_number] at h
  exact h
noncomputable def fns_199 : List (FuncId × Fn) := (199, F_impl_number) :: fns_198
theorem g_199 : Good Tryz.prog ⟨tis, fns_199, [], false⟩ := g_198.cons m_impl_number
noncomputable def impl_LessVec (a0 : Vec) (b1 : Vec) : Option Bool :=
  cond (a0.1 != b1.1)
    (some (decide (a0.1 < b1.1)))
    (cond (a0.2.1 != b1.2.1)
      (some (decide (a0.2.1 < b1.2.1)))
      (cond (a0.2.2.2.1 != b1.2.2.2.1)
        (let t4 := decide (a0.2.2.2.1 < b1.2.2.2.1)
        some t4)
        (let t4_1 := decide (a0.2.2.2.2 < b1.2.2.2.2)
        some t4_1)))
noncomputable def F_impl_LessVec : Fn := ⟨[.val true cVec false, .val true cVec false], [.val false (.one .bool) true], fun a => impl_LessVec a.1 a.2⟩
def a_impl_LessVec : List (Nat × LoopAnn) := []
theorem e_impl_LessVec : fnDen ⟨tis, fns_199, [], false⟩ a_impl_LessVec Tryz.f284 (codeOf Tryz.f284) [.val true cVec false, .val true cVec false] [.val false (.one .bool) true] = fun a => impl_LessVec a.1 a.2 := by kernel_rfl
theorem m_impl_LessVec : Meets Tryz.prog 284 F_impl_LessVec := by
  have h := meets_of (ann := a_impl_LessVec) (ps := [.val true cVec false, .val true cVec false]) (rs := [.val false (.one .bool) true]) g_199 mixed Tryz.func284 (by kernel_rfl) (by kernel_rfl : Tryz.f284.body = some (codeOf Tryz.f284))
  rw [e_impl_LessVec] at h
  exact h
noncomputable def fns_284 : List (FuncId × Fn) := (284, F_impl_LessVec) :: fns_199
theorem g_284 : Good Tryz.prog ⟨tis, fns_284, [], false⟩ := g_199.cons m_impl_LessVec
noncomputable def impl_StepVec (v0 : Vec) (cost1 : Int) : Option (Vec × Bool) :=
  (impl_VecOk v0).bind fun t8 =>
  (cond (!t8)
    (some true)
    ((impl_in cost1 1 1000).bind fun t12 =>
    some (!t12))).bind fun t14 =>
  cond t14
    (some (v0, false))
    ((impl_VecOk (v0.1, w64 (v0.2.1 + cost1), w64 (v0.2.2.1 + 1), v0.2.2.2.1, v0.2.2.2.2)).bind fun t27 =>
    cond (!t27)
      (some (v0, false))
      (some ((v0.1, w64 (v0.2.1 + cost1), w64 (v0.2.2.1 + 1), v0.2.2.2.1, v0.2.2.2.2), true)))
noncomputable def F_impl_StepVec : Fn := ⟨[.val true cVec false, .val false (.one (.int .i64)) false], [.val true cVec true, .val false (.one .bool) true], fun a => impl_StepVec a.1 a.2⟩
def a_impl_StepVec : List (Nat × LoopAnn) := []
theorem e_impl_StepVec : fnDen ⟨tis, fns_284, [], false⟩ a_impl_StepVec Tryz.f347 (codeOf Tryz.f347) [.val true cVec false, .val false (.one (.int .i64)) false] [.val true cVec true, .val false (.one .bool) true] = fun a => impl_StepVec a.1 a.2 := by kernel_rfl
theorem m_impl_StepVec : Meets Tryz.prog 347 F_impl_StepVec := by
  have h := meets_of (ann := a_impl_StepVec) (ps := [.val true cVec false, .val false (.one (.int .i64)) false]) (rs := [.val true cVec true, .val false (.one .bool) true]) g_284 mixed Tryz.func347 (by kernel_rfl) (by kernel_rfl : Tryz.f347.body = some (codeOf Tryz.f347))
  rw [e_impl_StepVec] at h
  exact h
noncomputable def fns_347 : List (FuncId × Fn) := (347, F_impl_StepVec) :: fns_284
theorem g_347 : Good Tryz.prog ⟨tis, fns_347, [], false⟩ := g_284.cons m_impl_StepVec
noncomputable def impl_BestVec_l0 (p0 : Int) (i1 : List Pt) (t7 : Int) (t18 : Int) (b0 : Int) (b1 : Int) (b2 : Int) (b3 : Int) (b4 : Int) (b0_1 : Int) (b1_1 : Int) (b2_1 : Int) (b3_1 : Int) (b4_1 : Int) : Option ((Int × Int × Int × Int × Int × Int × Int × Int × Int × Int × Int × Int) ⊕ (Int × Int × Int × Int × Int × Int × Int × Int × Int × Int × Int)) :=
  cond (decide (t18 < (i1.length : Int)))
    ((at? i1 t18).bind fun x21 =>
    (cond (!x21.1) (some true) (some (!x21.2.2.1))).bind fun t30 =>
    cond t30
      (some (.inl (t7, w64 (t18 + 1), b0, b1, b2, b3, b4, b0_1, b1_1, b2_1, b3_1, b4_1)))
      ((impl_StepVec x21.2.2.2 x21.2.1).bind fun t36 =>
      (cond t36.2 (some (decide (t36.1.1 < p0))) (some false)).bind fun t45 =>
      (cond t45
        ((cond (decide (t7 < 0))
          (some true)
          ((impl_LessVec t36.1 (b0_1, b1_1, b2_1, b3_1, b4_1)).bind fun t52 =>
          some t52)).bind fun t53 =>
        some t53)
        (some false)).bind fun t54 =>
      cond t54
        (some (.inl (t18, w64 (t18 + 1), t36.1.1, t36.1.2.1, t36.1.2.2.1, p0, 0, t36.1.1, t36.1.2.1, t36.1.2.2.1, t36.1.2.2.2.1, t36.1.2.2.2.2)))
        (some (.inl (t7, w64 (t18 + 1), b0, b1, b2, b3, b4, b0_1, b1_1, b2_1, b3_1, b4_1)))))
    (some (.inr (t7, b0, b1, b2, b3, b4, b0_1, b1_1, b2_1, b3_1, b4_1)))
noncomputable def impl_BestVec (p0 : Int) (i1 : List Pt) : Option (Vec × Int) :=
  (loop (fun z => impl_BestVec_l0 p0 i1 z.1 z.2.1 z.2.2.1 z.2.2.2.1 z.2.2.2.2.1 z.2.2.2.2.2.1 z.2.2.2.2.2.2.1 z.2.2.2.2.2.2.2.1 z.2.2.2.2.2.2.2.2.1 z.2.2.2.2.2.2.2.2.2.1 z.2.2.2.2.2.2.2.2.2.2.1 z.2.2.2.2.2.2.2.2.2.2.2) ((-1), 0, p0, 0, 0, p0, 0, 0, 0, 0, 0, 0)).bind fun d =>
  some ((d.2.1, d.2.2.1, d.2.2.2.1, d.2.2.2.2.1, d.2.2.2.2.2.1), d.1)
noncomputable def F_impl_BestVec : Fn := ⟨[.val false (.one (.int .i64)) false, .val false (.one (.sl cPt)) false], [.val true cVec true, .val false (.one (.int .i64)) true], fun a => impl_BestVec a.1 a.2⟩
def a_impl_BestVec : List (Nat × LoopAnn) := [(0, ⟨⟨[(7, false, [.dat (.int .i64)]), (18, false, [.dat (.int .i64)]), (27, false, [.undef]), (28, false, [.undef]), (29, false, [.undef]), (41, false, [.undef]), (42, false, [.undef]), (43, false, [.undef]), (44, false, [.undef]), (47, false, [.undef]), (48, false, [.undef]), (49, false, [.undef]), (50, false, [.undef]), (51, false, [.undef]), (52, false, [.undef]), (53, false, [.undef])], [(266240, .box [.dat (.int .i64), .dat (.int .i64), .dat (.int .i64), .dat (.int .i64), .dat (.int .i64)]), (525312, .box [.dat (.int .i64), .dat (.int .i64), .dat (.int .i64), .dat (.int .i64), .dat (.int .i64)])]⟩,
    ⟨[(7, false, [.dat (.int .i64)])], [(266240, .box [.dat (.int .i64), .dat (.int .i64), .dat (.int .i64), .dat (.int .i64), .dat (.int .i64)]), (525312, .box [.dat (.int .i64), .dat (.int .i64), .dat (.int .i64), .dat (.int .i64), .dat (.int .i64)])]⟩, none⟩)]
theorem e_impl_BestVec : fnDen ⟨tis, fns_347, [], false⟩ a_impl_BestVec Tryz.f281 (codeOf Tryz.f281) [.val false (.one (.int .i64)) false, .val false (.one (.sl cPt)) false] [.val true cVec true, .val false (.one (.int .i64)) true] = fun a => impl_BestVec a.1 a.2 := by kernel_rfl
theorem m_impl_BestVec : Meets Tryz.prog 281 F_impl_BestVec := by
  have h := meets_of (ann := a_impl_BestVec) (ps := [.val false (.one (.int .i64)) false, .val false (.one (.sl cPt)) false]) (rs := [.val true cVec true, .val false (.one (.int .i64)) true]) g_347 mixed Tryz.func281 (by kernel_rfl) (by kernel_rfl : Tryz.f281.body = some (codeOf Tryz.f281))
  rw [e_impl_BestVec] at h
  exact h
noncomputable def fns_281 : List (FuncId × Fn) := (281, F_impl_BestVec) :: fns_347
theorem g_281 : Good Tryz.prog ⟨tis, fns_281, [], false⟩ := g_347.cons m_impl_BestVec
noncomputable def impl_SayVec (id0 : Int) (l1 : List Pt) (port2 : Int) : Option Vec :=
  (impl_BestVec id0 l1).bind fun t12 =>
  some (t12.1.1, t12.1.2.1, t12.1.2.2.1, t12.1.2.2.2.1, port2)
noncomputable def F_impl_SayVec : Fn := ⟨[.val false (.one (.int .i64)) false, .val false (.one (.sl cPt)) false, .val false (.one (.int .i64)) false], [.val true cVec true], fun a => impl_SayVec a.1 a.2.1 a.2.2⟩
def a_impl_SayVec : List (Nat × LoopAnn) := []
theorem e_impl_SayVec : fnDen ⟨tis, fns_281, [], false⟩ a_impl_SayVec Tryz.f278 (codeOf Tryz.f278) [.val false (.one (.int .i64)) false, .val false (.one (.sl cPt)) false, .val false (.one (.int .i64)) false] [.val true cVec true] = fun a => impl_SayVec a.1 a.2.1 a.2.2 := by kernel_rfl
theorem m_impl_SayVec : Meets Tryz.prog 278 F_impl_SayVec := by
  have h := meets_of (ann := a_impl_SayVec) (ps := [.val false (.one (.int .i64)) false, .val false (.one (.sl cPt)) false, .val false (.one (.int .i64)) false]) (rs := [.val true cVec true]) g_281 mixed Tryz.func278 (by kernel_rfl) (by kernel_rfl : Tryz.f278.body = some (codeOf Tryz.f278))
  rw [e_impl_SayVec] at h
  exact h
noncomputable def fns_278 : List (FuncId × Fn) := (278, F_impl_SayVec) :: fns_281
theorem g_278 : Good Tryz.prog ⟨tis, fns_278, [], false⟩ := g_281.cons m_impl_SayVec
noncomputable def impl_RoleOf (id0 : Int) (l1 : List Pt) (port2 : Int) : Option Int :=
  (impl_in port2 0 (w64 ((l1.length : Int) - 1))).bind fun t13 =>
  (cond (!t13)
    (some true)
    ((at? l1 port2).bind fun x18 =>
    some (!x18.1))).bind fun t22 =>
  cond t22
    (some 4)
    ((impl_BestVec id0 l1).bind fun t26 =>
    cond (t26.2 == port2)
      (some 1)
      ((at? l1 port2).bind fun x36 =>
      (cond (!x36.2.2.1)
        (some true)
        ((impl_SayVec id0 l1 port2).bind fun t44 =>
        (at? l1 port2).bind fun x47 =>
        (impl_LessVec t44 x47.2.2.2).bind fun t50 =>
        some t50)).bind fun t51 =>
      cond t51 (some 2) (some 3)))
noncomputable def F_impl_RoleOf : Fn := ⟨[.val false (.one (.int .i64)) false, .val false (.one (.sl cPt)) false, .val false (.one (.int .i64)) false], [.val false (.one (.int .i64)) true], fun a => impl_RoleOf a.1 a.2.1 a.2.2⟩
def a_impl_RoleOf : List (Nat × LoopAnn) := []
theorem e_impl_RoleOf : fnDen ⟨tis, fns_278, [], false⟩ a_impl_RoleOf Tryz.f173 (codeOf Tryz.f173) [.val false (.one (.int .i64)) false, .val false (.one (.sl cPt)) false, .val false (.one (.int .i64)) false] [.val false (.one (.int .i64)) true] = fun a => impl_RoleOf a.1 a.2.1 a.2.2 := by kernel_rfl
theorem m_impl_RoleOf : Meets Tryz.prog 173 F_impl_RoleOf := by
  have h := meets_of (ann := a_impl_RoleOf) (ps := [.val false (.one (.int .i64)) false, .val false (.one (.sl cPt)) false, .val false (.one (.int .i64)) false]) (rs := [.val false (.one (.int .i64)) true]) g_278 mixed Tryz.func173 (by kernel_rfl) (by kernel_rfl : Tryz.f173.body = some (codeOf Tryz.f173))
  rw [e_impl_RoleOf] at h
  exact h
noncomputable def fns_173 : List (FuncId × Fn) := (173, F_impl_RoleOf) :: fns_278
theorem g_173 : Good Tryz.prog ⟨tis, fns_173, [], false⟩ := g_278.cons m_impl_RoleOf
noncomputable def impl_bit (is0 : Bool) : Option Int :=
  cond is0 (some 1) (some 0)
noncomputable def F_impl_bit : Fn := ⟨[.val false (.one .bool) false], [.val false (.one (.int .i64)) true], fun a => impl_bit a⟩
def a_impl_bit : List (Nat × LoopAnn) := []
theorem e_impl_bit : fnDen ⟨tis, fns_173, [], false⟩ a_impl_bit Tryz.f306 (codeOf Tryz.f306) [.val false (.one .bool) false] [.val false (.one (.int .i64)) true] = fun a => impl_bit a := by kernel_rfl
theorem m_impl_bit : Meets Tryz.prog 306 F_impl_bit := by
  have h := meets_of (ann := a_impl_bit) (ps := [.val false (.one .bool) false]) (rs := [.val false (.one (.int .i64)) true]) g_173 mixed Tryz.func306 (by kernel_rfl) (by kernel_rfl : Tryz.f306.body = some (codeOf Tryz.f306))
  rw [e_impl_bit] at h
  exact h
noncomputable def fns_306 : List (FuncId × Fn) := (306, F_impl_bit) :: fns_173
theorem g_306 : Good Tryz.prog ⟨tis, fns_306, [], false⟩ := g_173.cons m_impl_bit
noncomputable def impl_portThing (b0 : Bridge) (c1 : Int) (p2 : Int) : Option Int :=
  cond (c1 == 1)
    ((at? b0.2.2.1 p2).bind fun x13 =>
    (impl_bit x13.1).bind fun t16 =>
    some t16)
    (cond (c1 == 2)
      ((at? b0.2.2.1 p2).bind fun x22 =>
      some x22.2.1)
      (cond (c1 == 3)
        ((impl_RoleOf b0.1 b0.2.2.1 p2).bind fun t32 =>
        some t32)
        ((at? b0.2.2.2.2.2.1 p2).bind fun x37 =>
        some x37)))
noncomputable def F_impl_portThing : Fn := ⟨[.val true cBridge false, .val false (.one (.int .i64)) false, .val false (.one (.int .i64)) false], [.val false (.one (.int .i64)) true], fun a => impl_portThing a.1 a.2.1 a.2.2⟩
end Go.V.W
