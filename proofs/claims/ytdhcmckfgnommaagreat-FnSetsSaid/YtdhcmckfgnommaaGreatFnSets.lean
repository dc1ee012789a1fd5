/- The law FnSets: part of the proof that for every input it returns true. No condition. -/
import Derived.Test.YtdhcmckfgnommaaGreatV4
import Derived.Test.YtdhcmckfgnommaaGreatProg
import Derived.Test.YtdhcmckfgnommaaGreatChecked
import Derived.KernelRfl
namespace Go.V.W
open Go.Proofs
set_option linter.unusedVariables false
noncomputable section
def us : Nat → Nat → List (Nat × Bool × List SCell) → List (Nat × Bool × List SCell) | _, 0, l => l | a, n + 1, l => (a, false, [.undef]) :: us (a + 1) n l
@[reducible] def cNI : Cs := .one (.int .i64)
@[reducible] def cNB : Cs := .one .bool
@[reducible] def cNY : Cs := .one (.sl (.one (.int .u8)))
@[reducible] def cNN : Cs := .one (.sl (.one (.int .i64)))
@[reducible] def cNS : Cs := .one .str
@[reducible] def dI : SCell := .dat (.int .i64)
@[reducible] def dB : SCell := .dat .bool
@[reducible] def dS : SCell := .dat .str
@[reducible] def cVal : Cs := .cons (.int .i64) (.cons (.int .i64) (.cons .str cNN))
@[reducible] def cL1Cur : Cs := .cons (.sl (.one (.int .u8))) (.cons (.int .i64) cNI)
@[reducible] def cVrow : Cs := .cons (.int .i64) (.cons (.int .i64) cNI)
@[reducible] def cVtab : Cs := .cons (.sl cVrow) cNN
@[reducible] def cVec : Cs := .cons (.int .i64) (.cons (.int .i64) (.cons (.int .i64) (.cons (.int .i64) cNI)))
@[reducible] def cPt : Cs := .cons .bool (.cons (.int .i64) (.cons .bool (.cons (.int .i64) (.cons (.int .i64) (.cons (.int .i64) (.cons (.int .i64) cNI))))))
@[reducible] def cFent : Cs := .cons (.int .i64) (.cons (.int .i64) (.cons (.int .i64) (.cons (.int .i64) cNB)))
@[reducible] def cBridge : Cs := .cons (.int .i64) (.cons .str (.cons (.sl cPt) (.cons (.sl cFent) (.cons (.sl cVrow) (.cons (.sl cNI) (.cons (.int .i64) (.cons (.int .i64) (.cons (.int .i64) (.cons (.int .i64) cNI)))))))))
@[reducible] def cBind : Cs := .cons (.sl cNI) (.cons (.int .i64) (.cons (.int .i64) (.cons .str cNN)))
@[reducible] def cPdu : Cs := .cons (.int .i64) (.cons (.int .i64) (.cons (.int .i64) (.cons (.int .i64) (.one (.sl cBind)))))
abbrev Val : Type := Int × Int × List UInt8 × List Int
abbrev L1Cur : Type := List Int × Int × Int
abbrev Vrow : Type := Int × Int × Int
abbrev Vtab : Type := List Vrow × List Int
abbrev Vec : Type := Int × Int × Int × Int × Int
abbrev Pt : Type := Bool × Int × Bool × Int × Int × Int × Int × Int
abbrev Fent : Type := Int × Int × Int × Int × Bool
abbrev Bridge : Type := Int × List UInt8 × List Pt × List Fent × List Vrow × List Int × Int × Int × Int × Int × Int
abbrev Bind : Type := List Int × Int × Int × List UInt8 × List Int
abbrev Pdu : Type := Int × Int × Int × Int × List Bind
def tis : List (Nat × TInfo) := [(2, ⟨false, .one (.int .i64), [], 0⟩),
 (3, ⟨false, .one (.int .i64), [], 0⟩),
 (4, ⟨false, .one .bool, [], 0⟩),
 (5, ⟨false, .one (.int .u8), [], 0⟩),
 (6, ⟨false, .one (.int .u8), [], 0⟩),
 (9, ⟨false, .one .str, [], 0⟩),
 (10, ⟨false, .one .str, [], 0⟩),
 (11, ⟨false, .one .str, [], 0⟩),
 (12, ⟨false, .one (.int .u64), [], 0⟩),
 (21, ⟨false, .one (.int .i32), [], 0⟩),
 (22, ⟨false, .one (.sl (.one (.int .u8))), [], 5⟩),
 (24, ⟨false, .one (.sl cPt), [], 141⟩),
 (25, ⟨false, .one (.sl cFent), [], 143⟩),
 (26, ⟨false, .one (.sl cVrow), [], 232⟩),
 (27, ⟨false, .one (.sl cNI), [], 3⟩),
 (28, ⟨true, cVtab, [(26, 0), (27, 1)], 0⟩),
 (29, ⟨true, cVtab, [(26, 0), (27, 1)], 0⟩),
 (30, ⟨true, cBridge, [(3, 0), (9, 1), (24, 2), (25, 3), (29, 4), (3, 6), (3, 7), (3, 8), (3, 9), (3, 10)], 0⟩),
 (31, ⟨true, cBridge, [(3, 0), (9, 1), (24, 2), (25, 3), (29, 4), (3, 6), (3, 7), (3, 8), (3, 9), (3, 10)], 0⟩),
 (35, ⟨false, .one (.sl cBind), [], 43⟩),
 (36, ⟨true, cPdu, [(3, 0), (3, 1), (3, 2), (3, 3), (35, 4)], 0⟩),
 (37, ⟨true, cPdu, [(3, 0), (3, 1), (3, 2), (3, 3), (35, 4)], 0⟩),
 (40, ⟨true, cVal, [(3, 0), (3, 1), (9, 2), (27, 3)], 0⟩),
 (41, ⟨true, cVal, [(3, 0), (3, 1), (9, 2), (27, 3)], 0⟩),
 (42, ⟨true, cBind, [(27, 0), (41, 1)], 0⟩),
 (43, ⟨true, cBind, [(27, 0), (41, 1)], 0⟩),
 (65, ⟨false, .one (.sl (.cons (.int .i64) (.cons (.sl (.one (.int .u8))) (.cons (.int .i64) (.cons (.int .i64) (.cons (.int .i64) (.cons (.int .i64) (.cons (.int .i64) (.cons (.sl cBind) (.cons (.int .i64) (.cons .str (.cons (.sl cPt) (.cons (.sl cFent) (.cons (.sl cVrow) (.cons (.sl cNI) (.cons (.int .i64) (.cons (.int .i64) (.cons (.int .i64) (.cons (.int .i64) (.cons (.int .i64) (.cons (.int .i64) cNI))))))))))))))))))))), [], 72⟩),
 (66, ⟨true, .cons (.int .i64) (.cons .str (.cons (.sl cPt) (.cons (.sl cFent) (.cons (.sl cVrow) (.cons (.sl cNI) (.cons (.int .i64) (.cons (.int .i64) (.cons (.int .i64) (.cons (.int .i64) (.cons (.int .i64) (.cons .str (.cons (.sl (.cons (.int .i64) (.cons (.sl (.one (.int .u8))) (.cons (.int .i64) (.cons (.int .i64) (.cons (.int .i64) (.cons (.int .i64) (.cons (.int .i64) (.cons (.sl cBind) (.cons (.int .i64) (.cons .str (.cons (.sl cPt) (.cons (.sl cFent) (.cons (.sl cVrow) (.cons (.sl cNI) (.cons (.int .i64) (.cons (.int .i64) (.cons (.int .i64) (.cons (.int .i64) (.cons (.int .i64) (.cons (.int .i64) cNI))))))))))))))))))))) (.cons (.int .i64) cNI))))))))))))), [(31, 0), (9, 11), (65, 12), (3, 13), (3, 14)], 0⟩),
 (67, ⟨true, .cons (.int .i64) (.cons .str (.cons (.sl cPt) (.cons (.sl cFent) (.cons (.sl cVrow) (.cons (.sl cNI) (.cons (.int .i64) (.cons (.int .i64) (.cons (.int .i64) (.cons (.int .i64) (.cons (.int .i64) (.cons .str (.cons (.sl (.cons (.int .i64) (.cons (.sl (.one (.int .u8))) (.cons (.int .i64) (.cons (.int .i64) (.cons (.int .i64) (.cons (.int .i64) (.cons (.int .i64) (.cons (.sl cBind) (.cons (.int .i64) (.cons .str (.cons (.sl cPt) (.cons (.sl cFent) (.cons (.sl cVrow) (.cons (.sl cNI) (.cons (.int .i64) (.cons (.int .i64) (.cons (.int .i64) (.cons (.int .i64) (.cons (.int .i64) (.cons (.int .i64) cNI))))))))))))))))))))) (.cons (.int .i64) cNI))))))))))))), [(31, 0), (9, 11), (65, 12), (3, 13), (3, 14)], 0⟩),
 (71, ⟨true, .cons (.int .i64) (.cons (.sl (.one (.int .u8))) (.cons (.int .i64) (.cons (.int .i64) (.cons (.int .i64) (.cons (.int .i64) (.cons (.int .i64) (.cons (.sl cBind) (.cons (.int .i64) (.cons .str (.cons (.sl cPt) (.cons (.sl cFent) (.cons (.sl cVrow) (.cons (.sl cNI) (.cons (.int .i64) (.cons (.int .i64) (.cons (.int .i64) (.cons (.int .i64) (.cons (.int .i64) (.cons (.int .i64) cNI))))))))))))))))))), [(3, 0), (22, 1), (3, 2), (37, 3), (31, 8), (3, 19), (3, 20)], 0⟩),
 (72, ⟨true, .cons (.int .i64) (.cons (.sl (.one (.int .u8))) (.cons (.int .i64) (.cons (.int .i64) (.cons (.int .i64) (.cons (.int .i64) (.cons (.int .i64) (.cons (.sl cBind) (.cons (.int .i64) (.cons .str (.cons (.sl cPt) (.cons (.sl cFent) (.cons (.sl cVrow) (.cons (.sl cNI) (.cons (.int .i64) (.cons (.int .i64) (.cons (.int .i64) (.cons (.int .i64) (.cons (.int .i64) (.cons (.int .i64) cNI))))))))))))))))))), [(3, 0), (22, 1), (3, 2), (37, 3), (31, 8), (3, 19), (3, 20)], 0⟩),
 (74, ⟨false, .one (.sl (.cons (.int .i64) (.cons (.int .i64) (.cons (.int .i64) (.cons (.int .i64) (.cons (.int .i64) (.one (.sl cBind)))))))), [], 78⟩),
 (77, ⟨true, .cons (.int .i64) (.cons (.int .i64) (.cons (.int .i64) (.cons (.int .i64) (.cons (.int .i64) (.one (.sl cBind)))))), [(3, 0), (37, 1)], 0⟩),
 (78, ⟨true, .cons (.int .i64) (.cons (.int .i64) (.cons (.int .i64) (.cons (.int .i64) (.cons (.int .i64) (.one (.sl cBind)))))), [(3, 0), (37, 1)], 0⟩),
 (79, ⟨false, .one (.sl cPt), [], 261⟩),
 (80, ⟨false, .one (.sl cFent), [], 263⟩),
 (81, ⟨false, .one (.sl cVrow), [], 326⟩),
 (82, ⟨true, cVtab, [(81, 0), (27, 1)], 0⟩),
 (83, ⟨true, cVtab, [(81, 0), (27, 1)], 0⟩),
 (84, ⟨true, cBridge, [(3, 0), (9, 1), (79, 2), (80, 3), (83, 4), (3, 6), (3, 7), (3, 8), (3, 9), (3, 10)], 0⟩),
 (85, ⟨true, cBridge, [(3, 0), (9, 1), (79, 2), (80, 3), (83, 4), (3, 6), (3, 7), (3, 8), (3, 9), (3, 10)], 0⟩),
 (86, ⟨false, .one (.sl cBind), [], 166⟩),
 (95, ⟨false, .one (.sl cBridge), [], 85⟩),
 (96, ⟨false, .one (.sl (.cons (.int .i64) (.cons (.int .i64) (.cons (.int .i64) cNI)))), [], 272⟩),
 (97, ⟨false, .one (.sl (.cons (.int .i64) (.cons .bool (.cons (.int .i64) (.cons (.int .i64) (.cons (.int .i64) (.cons (.int .i64) cNI))))))), [], 275⟩),
 (98, ⟨true, .cons (.sl cBridge) (.cons (.sl (.cons (.int .i64) (.cons (.int .i64) (.cons (.int .i64) cNI)))) (.one (.sl (.cons (.int .i64) (.cons .bool (.cons (.int .i64) (.cons (.int .i64) (.cons (.int .i64) (.cons (.int .i64) cNI))))))))), [(95, 0), (96, 1), (97, 2)], 0⟩),
 (99, ⟨true, .cons (.sl cBridge) (.cons (.sl (.cons (.int .i64) (.cons (.int .i64) (.cons (.int .i64) cNI)))) (.one (.sl (.cons (.int .i64) (.cons .bool (.cons (.int .i64) (.cons (.int .i64) (.cons (.int .i64) (.cons (.int .i64) cNI))))))))), [(95, 0), (96, 1), (97, 2)], 0⟩),
 (102, ⟨false, .one (.sl cBridge), [], 31⟩),
 (103, ⟨false, .one (.sl (.cons (.int .i64) (.cons (.int .i64) (.cons (.int .i64) cNI)))), [], 202⟩),
 (104, ⟨false, .one (.sl (.cons (.int .i64) (.cons .bool (.cons (.int .i64) (.cons (.int .i64) (.cons (.int .i64) (.cons (.int .i64) cNI))))))), [], 199⟩),
 (105, ⟨true, .cons (.sl cBridge) (.cons (.sl (.cons (.int .i64) (.cons (.int .i64) (.cons (.int .i64) cNI)))) (.one (.sl (.cons (.int .i64) (.cons .bool (.cons (.int .i64) (.cons (.int .i64) (.cons (.int .i64) (.cons (.int .i64) cNI))))))))), [(102, 0), (103, 1), (104, 2)], 0⟩),
 (106, ⟨true, .cons (.sl cBridge) (.cons (.sl (.cons (.int .i64) (.cons (.int .i64) (.cons (.int .i64) cNI)))) (.one (.sl (.cons (.int .i64) (.cons .bool (.cons (.int .i64) (.cons (.int .i64) (.cons (.int .i64) (.cons (.int .i64) cNI))))))))), [(102, 0), (103, 1), (104, 2)], 0⟩),
 (110, ⟨false, .one (.sl (.cons (.int .i64) (.cons (.sl (.one (.int .u8))) (.cons (.int .i64) (.cons (.int .i64) (.cons (.int .i64) (.cons (.int .i64) (.cons (.int .i64) (.cons (.sl cBind) (.cons (.int .i64) (.cons .str (.cons (.sl cPt) (.cons (.sl cFent) (.cons (.sl cVrow) (.cons (.sl cNI) (.cons (.int .i64) (.cons (.int .i64) (.cons (.int .i64) (.cons (.int .i64) (.cons (.int .i64) (.cons (.int .i64) cNI))))))))))))))))))))), [], 282⟩),
 (111, ⟨true, .cons (.int .i64) (.cons .str (.cons (.sl cPt) (.cons (.sl cFent) (.cons (.sl cVrow) (.cons (.sl cNI) (.cons (.int .i64) (.cons (.int .i64) (.cons (.int .i64) (.cons (.int .i64) (.cons (.int .i64) (.cons .str (.cons (.sl (.cons (.int .i64) (.cons (.sl (.one (.int .u8))) (.cons (.int .i64) (.cons (.int .i64) (.cons (.int .i64) (.cons (.int .i64) (.cons (.int .i64) (.cons (.sl cBind) (.cons (.int .i64) (.cons .str (.cons (.sl cPt) (.cons (.sl cFent) (.cons (.sl cVrow) (.cons (.sl cNI) (.cons (.int .i64) (.cons (.int .i64) (.cons (.int .i64) (.cons (.int .i64) (.cons (.int .i64) (.cons (.int .i64) cNI))))))))))))))))))))) (.cons (.int .i64) cNI))))))))))))), [(85, 0), (9, 11), (110, 12), (3, 13), (3, 14)], 0⟩),
 (112, ⟨true, .cons (.int .i64) (.cons .str (.cons (.sl cPt) (.cons (.sl cFent) (.cons (.sl cVrow) (.cons (.sl cNI) (.cons (.int .i64) (.cons (.int .i64) (.cons (.int .i64) (.cons (.int .i64) (.cons (.int .i64) (.cons .str (.cons (.sl (.cons (.int .i64) (.cons (.sl (.one (.int .u8))) (.cons (.int .i64) (.cons (.int .i64) (.cons (.int .i64) (.cons (.int .i64) (.cons (.int .i64) (.cons (.sl cBind) (.cons (.int .i64) (.cons .str (.cons (.sl cPt) (.cons (.sl cFent) (.cons (.sl cVrow) (.cons (.sl cNI) (.cons (.int .i64) (.cons (.int .i64) (.cons (.int .i64) (.cons (.int .i64) (.cons (.int .i64) (.cons (.int .i64) cNI))))))))))))))))))))) (.cons (.int .i64) cNI))))))))))))), [(85, 0), (9, 11), (110, 12), (3, 13), (3, 14)], 0⟩),
 (138, ⟨true, cVec, [(3, 0), (3, 1), (3, 2), (3, 3), (3, 4)], 0⟩),
 (139, ⟨true, cVec, [(3, 0), (3, 1), (3, 2), (3, 3), (3, 4)], 0⟩),
 (140, ⟨true, cPt, [(4, 0), (3, 1), (4, 2), (139, 3)], 0⟩),
 (141, ⟨true, cPt, [(4, 0), (3, 1), (4, 2), (139, 3)], 0⟩),
 (142, ⟨true, cFent, [(3, 0), (3, 1), (3, 2), (3, 3), (4, 4)], 0⟩),
 (143, ⟨true, cFent, [(3, 0), (3, 1), (3, 2), (3, 3), (4, 4)], 0⟩),
 (164, ⟨true, cVal, [(3, 0), (3, 1), (9, 2), (27, 3)], 0⟩),
 (165, ⟨true, cBind, [(27, 0), (164, 1)], 0⟩),
 (166, ⟨true, cBind, [(27, 0), (164, 1)], 0⟩),
 (198, ⟨true, .cons (.int .i64) (.cons .bool (.cons (.int .i64) (.cons (.int .i64) (.cons (.int .i64) (.cons (.int .i64) cNI))))), [(3, 0), (4, 1), (139, 2)], 0⟩),
 (199, ⟨true, .cons (.int .i64) (.cons .bool (.cons (.int .i64) (.cons (.int .i64) (.cons (.int .i64) (.cons (.int .i64) cNI))))), [(3, 0), (4, 1), (139, 2)], 0⟩),
 (201, ⟨true, .cons (.int .i64) (.cons (.int .i64) (.cons (.int .i64) cNI)), [(3, 0), (3, 1), (3, 2), (3, 3)], 0⟩),
 (202, ⟨true, .cons (.int .i64) (.cons (.int .i64) (.cons (.int .i64) cNI)), [(3, 0), (3, 1), (3, 2), (3, 3)], 0⟩),
 (210, ⟨true, cL1Cur, [(22, 0), (3, 1), (3, 2)], 0⟩),
 (211, ⟨true, cL1Cur, [(22, 0), (3, 1), (3, 2)], 0⟩),
 (214, ⟨false, .one (.sl cNS), [], 9⟩),
 (226, ⟨false, .one (.sl cNN), [], 27⟩),
 (231, ⟨true, cVrow, [(3, 0), (3, 1), (3, 2)], 0⟩),
 (232, ⟨true, cVrow, [(3, 0), (3, 1), (3, 2)], 0⟩),
 (242, ⟨false, .one (.int .u64), [], 0⟩),
 (259, ⟨true, cVec, [(3, 0), (3, 1), (3, 2), (3, 3), (3, 4)], 0⟩),
 (260, ⟨true, cPt, [(4, 0), (3, 1), (4, 2), (259, 3)], 0⟩),
 (261, ⟨true, cPt, [(4, 0), (3, 1), (4, 2), (259, 3)], 0⟩),
 (263, ⟨true, cFent, [(3, 0), (3, 1), (3, 2), (3, 3), (4, 4)], 0⟩),
 (272, ⟨true, .cons (.int .i64) (.cons (.int .i64) (.cons (.int .i64) cNI)), [(3, 0), (3, 1), (3, 2), (3, 3)], 0⟩),
 (274, ⟨true, .cons (.int .i64) (.cons .bool (.cons (.int .i64) (.cons (.int .i64) (.cons (.int .i64) (.cons (.int .i64) cNI))))), [(3, 0), (4, 1), (259, 2)], 0⟩),
 (275, ⟨true, .cons (.int .i64) (.cons .bool (.cons (.int .i64) (.cons (.int .i64) (.cons (.int .i64) (.cons (.int .i64) cNI))))), [(3, 0), (4, 1), (259, 2)], 0⟩),
 (279, ⟨true, cPdu, [(3, 0), (3, 1), (3, 2), (3, 3), (86, 4)], 0⟩),
 (280, ⟨true, cPdu, [(3, 0), (3, 1), (3, 2), (3, 3), (86, 4)], 0⟩),
 (281, ⟨true, .cons (.int .i64) (.cons (.sl (.one (.int .u8))) (.cons (.int .i64) (.cons (.int .i64) (.cons (.int .i64) (.cons (.int .i64) (.cons (.int .i64) (.cons (.sl cBind) (.cons (.int .i64) (.cons .str (.cons (.sl cPt) (.cons (.sl cFent) (.cons (.sl cVrow) (.cons (.sl cNI) (.cons (.int .i64) (.cons (.int .i64) (.cons (.int .i64) (.cons (.int .i64) (.cons (.int .i64) (.cons (.int .i64) cNI))))))))))))))))))), [(3, 0), (22, 1), (3, 2), (280, 3), (85, 8), (3, 19), (3, 20)], 0⟩),
 (282, ⟨true, .cons (.int .i64) (.cons (.sl (.one (.int .u8))) (.cons (.int .i64) (.cons (.int .i64) (.cons (.int .i64) (.cons (.int .i64) (.cons (.int .i64) (.cons (.sl cBind) (.cons (.int .i64) (.cons .str (.cons (.sl cPt) (.cons (.sl cFent) (.cons (.sl cVrow) (.cons (.sl cNI) (.cons (.int .i64) (.cons (.int .i64) (.cons (.int .i64) (.cons (.int .i64) (.cons (.int .i64) (.cons (.int .i64) cNI))))))))))))))))))), [(3, 0), (22, 1), (3, 2), (280, 3), (85, 8), (3, 19), (3, 20)], 0⟩),
 (287, ⟨true, .cons (.sl (.one (.int .u8))) (.cons (.int .i64) cNB), [(22, 0), (3, 1), (4, 2)], 0⟩),
 (288, ⟨true, .cons (.sl (.one (.int .u8))) (.cons (.int .i64) cNB), [(22, 0), (3, 1), (4, 2)], 0⟩),
 (299, ⟨false, .one (.sl cNB), [], 4⟩),
 (326, ⟨true, cVrow, [(3, 0), (3, 1), (3, 2)], 0⟩),
 (337, ⟨true, .cons (.sl (.one (.int .u8))) (.cons (.int .i64) cNB), [(22, 0), (3, 1), (4, 2)], 0⟩),
 (338, ⟨true, .cons (.sl (.one (.int .u8))) (.cons (.int .i64) cNB), [(22, 0), (3, 1), (4, 2)], 0⟩),
 (345, ⟨true, .cons (.int .i64) cNI, [(3, 0), (3, 1)], 0⟩),
 (346, ⟨true, .cons (.int .i64) cNI, [(3, 0), (3, 1)], 0⟩),
 (364, ⟨false, .one (.int .i8), [], 0⟩),
 (374, ⟨false, .one (.int .u32), [], 0⟩),
 (375, ⟨false, .one (.int .u8), [], 0⟩),
 (376, ⟨false, .one (.int .u8), [], 0⟩),
 (379, ⟨false, .one (.int .i32), [], 0⟩),
 (380, ⟨false, .one (.int .i32), [], 0⟩)]
theorem tisT : Tis Tryz.prog tis := Tis.of_all (by kernel_rfl)
theorem tisE : Eqs Tryz.prog tis := Eqs.of_all (by kernel_rfl)
theorem tisD : Deep Tryz.prog tis := Deep.of_all (by kernel_rfl)
theorem mixed : Tryz.prog.follows .mixedOrders = true := by kernel_rfl
def codeOf (fn : Func) : Code := match fn.body with | some c => c | none => .skip
theorem g_0 : Good Tryz.prog ⟨tis, [], [], false⟩ := ⟨tisT, tisE, (fun f F h => by cases h), (fun f M h => by cases h), (fun h => by cases h)⟩
theorem mkM {l : List (FuncId × Fn)} (g : Good Tryz.prog ⟨tis, l, [], false⟩) (n : FuncId) (f : Func) (ann : List (Nat × LoopAnn)) (F : Fn) (h1 : Tryz.prog.funcs[n]? = some f) (h2 : (f.name == "runtime.NumGoroutine") = false) (h3 : f.body = some (codeOf f)) (h4 : fnDen ⟨tis, l, [], false⟩ ann f (codeOf f) F.ps F.rs = F.den) : Meets Tryz.prog n F := by
 have h := meets_of (ann := ann) (ps := F.ps) (rs := F.rs) g mixed h1 h2 h3
 rw [h4] at h
 exact h
def laws_big (code0 : List Int) : Option Bool :=
 let t2 := decide ((code0.length : Int) > 1048576)
 some t2
def F_laws_big : Fn := ⟨[.val false cNY false], [.val false cNB true], fun a => laws_big a⟩
theorem m_laws_big : Meets Tryz.prog 13 F_laws_big := mkM g_0 13 Tryz.f13 [] F_laws_big Tryz.func13 (by kernel_rfl) (by kernel_rfl) (by kernel_rfl)
def fns_13 : List (FuncId × Fn) := (13, F_laws_big) :: []
theorem g_13 : Good Tryz.prog ⟨tis, fns_13, [], false⟩ := g_0.cons m_laws_big
def impl_SameOid_l0 (a0 : List Int) (b1 : List Int) (t13 : Int) : Option (Int ⊕ (Unit ⊕ Bool)) :=
 cond (decide (t13 < (a0.length : Int)))
 ((at? a0 t13).bind fun x18 =>
 (at? b1 t13).bind fun x22 =>
 cond (x18 != x22) (some (.inr (.inr false))) (some (.inl (w64 (t13 + 1)))))
 (some (.inr (.inl ())))
def impl_SameOid (a0 : List Int) (b1 : List Int) : Option Bool :=
 cond ((a0.length : Int) != (b1.length : Int))
 (some false)
 ((loop (fun z => impl_SameOid_l0 a0 b1 z) 0).bind (Sum.elim (fun d =>
 some true) (fun r => some r)))
def F_impl_SameOid : Fn := ⟨[.val false cNN false, .val false cNN false], [.val false cNB true], fun a => impl_SameOid a.1 a.2⟩
def a_impl_SameOid : List (Nat × LoopAnn) := [(0, ⟨⟨[(13, false, [dI])], []⟩,
 ⟨[], []⟩, some ⟨[(4, false, [dB])], []⟩⟩)]
theorem m_impl_SameOid : Meets Tryz.prog 18 F_impl_SameOid := mkM g_13 18 Tryz.f18 a_impl_SameOid F_impl_SameOid Tryz.func18 (by kernel_rfl) (by kernel_rfl) (by kernel_rfl)
def fns_18 : List (FuncId × Fn) := (18, F_impl_SameOid) :: fns_13
theorem g_18 : Good Tryz.prog ⟨tis, fns_18, [], false⟩ := g_13.cons m_impl_SameOid
def impl_SameVal (a0 : Val) (b1 : Val) : Option Bool :=
 (cond (a0.1 == b1.1) (some (a0.2.1 == b1.2.1)) (some false)).bind fun t16 =>
 (cond t16 (some (a0.2.2.1 == b1.2.2.1)) (some false)).bind fun t23 =>
 (cond t23
 ((impl_SameOid a0.2.2.2 b1.2.2.2).bind fun t29 =>
 some t29)
 (some false)).bind fun t30 =>
 some t30
def F_impl_SameVal : Fn := ⟨[.val true cVal false, .val true cVal false], [.val false cNB true], fun a => impl_SameVal a.1 a.2⟩
theorem m_impl_SameVal : Meets Tryz.prog 19 F_impl_SameVal := mkM g_18 19 Tryz.f19 [] F_impl_SameVal Tryz.func19 (by kernel_rfl) (by kernel_rfl) (by kernel_rfl)
def fns_19 : List (FuncId × Fn) := (19, F_impl_SameVal) :: fns_18
theorem g_19 : Good Tryz.prog ⟨tis, fns_19, [], false⟩ := g_18.cons m_impl_SameVal
def spec_l1New_l0 (code0 : List Int) (h3_1 : Int) (i4 : Int) : Option ((Int × Int) ⊕ Int) :=
 (cond (decide (i4 < (code0.length : Int))) (some (decide (i4 < 4000))) (some false)).bind fun t15 =>
 cond t15
 ((at? code0 i4).bind fun x22 =>
 let h3_2 := band .i64 (w64 ((w64 ((w64 (h3_1 * 137)) + (w64 (x22)))) + 11)) 1073741823
 some (.inl (h3_2, w64 (i4 + 1))))
 (some (.inr h3_1))
def spec_l1New (code0 : List Int) : Option L1Cur :=
 let h3 := w64 (762762 + (code0.length : Int))
 (loop (fun z => spec_l1New_l0 code0 z.1 z.2) (h3, 0)).bind fun d =>
 some (code0, 0, d)
def F_spec_l1New : Fn := ⟨[.val false cNY false], [.ptr cL1Cur false], fun a => spec_l1New a⟩
def a_spec_l1New : List (Nat × LoopAnn) := [(0, ⟨⟨[(3, false, [dI]), (4, false, [dI]), (13, false, [.undef]), (14, false, [.undef])], []⟩,
 ⟨[(3, false, [dI])], []⟩, none⟩)]
theorem m_spec_l1New : Meets Tryz.prog 77 F_spec_l1New := mkM g_19 77 Tryz.f77 a_spec_l1New F_spec_l1New Tryz.func77 (by kernel_rfl) (by kernel_rfl) (by kernel_rfl)
def fns_77 : List (FuncId × Fn) := (77, F_spec_l1New) :: fns_19
theorem g_77 : Good Tryz.prog ⟨tis, fns_77, [], false⟩ := g_19.cons m_spec_l1New
def spec_l1Byte (c0 : L1Cur) : Option (L1Cur × Int) :=
 let x3 := band .i64 (bxor .i64 ((w64 ((w64 (c0.2.2 * 6364136223846793005)) + 1442695040888963407)).fdiv (2 ^ 33)) ((w64 ((w64 (c0.2.2 * 6364136223846793005)) + 1442695040888963407)).fdiv (2 ^ 47))) 255
 cond (decide (c0.2.1 < (c0.1.length : Int)))
 ((at? c0.1 c0.2.1).bind fun x44 =>
 let x3_1 := band .i64 (w64 (x3 + (w64 (x44)))) 255
 some ((c0.1, w64 (c0.2.1 + 1), w64 ((w64 (c0.2.2 * 6364136223846793005)) + 1442695040888963407)), x3_1))
 (some ((c0.1, c0.2.1, w64 ((w64 (c0.2.2 * 6364136223846793005)) + 1442695040888963407)), x3))
def F_spec_l1Byte : Fn := ⟨[.ptr cL1Cur false], [.val false cNI true], fun a => spec_l1Byte a⟩
theorem m_spec_l1Byte : Meets Tryz.prog 231 F_spec_l1Byte := mkM g_77 231 Tryz.f231 [] F_spec_l1Byte Tryz.func231 (by kernel_rfl) (by kernel_rfl) (by kernel_rfl)
def fns_231 : List (FuncId × Fn) := (231, F_spec_l1Byte) :: fns_77
theorem g_231 : Good Tryz.prog ⟨tis, fns_231, [], false⟩ := g_77.cons m_spec_l1Byte
def spec_l1Below (c0 : L1Cur) (n1 : Int) : Option (L1Cur × Int) :=
 cond (decide (n1 ≤ 0))
 (some (c0, 0))
 (cond (decide (n1 ≤ 256))
 ((spec_l1Byte c0).bind fun t13 =>
 (rem t13.2 n1).bind fun t15 =>
 some (t13.1, t15))
 ((spec_l1Byte c0).bind fun t17 =>
 (spec_l1Byte t17.1).bind fun t19 =>
 (spec_l1Byte t19.1).bind fun t21 =>
 (rem (w64 ((w64 ((w64 (t17.2 * 65536)) + (w64 (t19.2 * 256)))) + t21.2)) n1).bind fun t30 =>
 some (t21.1, t30)))
def F_spec_l1Below : Fn := ⟨[.ptr cL1Cur false, .val false cNI false], [.val false cNI true], fun a => spec_l1Below a.1 a.2⟩
theorem m_spec_l1Below : Meets Tryz.prog 107 F_spec_l1Below := mkM g_231 107 Tryz.f107 [] F_spec_l1Below Tryz.func107 (by kernel_rfl) (by kernel_rfl) (by kernel_rfl)
def fns_107 : List (FuncId × Fn) := (107, F_spec_l1Below) :: fns_231
theorem g_107 : Good Tryz.prog ⟨tis, fns_107, [], false⟩ := g_231.cons m_spec_l1Below
def spec_l1Once (c0 : L1Cur) (n1 : Int) : Option (L1Cur × Bool) :=
 (spec_l1Below c0 n1).bind fun t7 =>
 some (t7.1, t7.2 == 0)
def F_spec_l1Once : Fn := ⟨[.ptr cL1Cur false, .val false cNI false], [.val false cNB true], fun a => spec_l1Once a.1 a.2⟩
theorem m_spec_l1Once : Meets Tryz.prog 103 F_spec_l1Once := mkM g_107 103 Tryz.f103 [] F_spec_l1Once Tryz.func103 (by kernel_rfl) (by kernel_rfl) (by kernel_rfl)
def fns_103 : List (FuncId × Fn) := (103, F_spec_l1Once) :: fns_107
theorem g_103 : Good Tryz.prog ⟨tis, fns_103, [], false⟩ := g_107.cons m_spec_l1Once
def spec_l1In (x0 : Int) (least1 : Int) (most2 : Int) : Option Bool :=
 (cond (decide (x0 ≥ least1)) (some (decide (x0 ≤ most2))) (some false)).bind fun t14 =>
 some t14
def F_spec_l1In : Fn := ⟨[.val false cNI false, .val false cNI false, .val false cNI false], [.val false cNB true], fun a => spec_l1In a.1 a.2.1 a.2.2⟩
theorem m_spec_l1In : Meets Tryz.prog 150 F_spec_l1In := mkM g_103 150 Tryz.f150 [] F_spec_l1In Tryz.func150 (by kernel_rfl) (by kernel_rfl) (by kernel_rfl)
def fns_150 : List (FuncId × Fn) := (150, F_spec_l1In) :: fns_103
theorem g_150 : Good Tryz.prog ⟨tis, fns_150, [], false⟩ := g_103.cons m_spec_l1In
def spec_VtabNew_l0 (ports0 : Int) (i5 : Int) (b1 : List Int) : Option ((Int × List Int) ⊕ (List Int)) :=
 cond (decide (i5 < ports0))
 ((app b1 ([1] : List Int)).bind fun zs27 =>
 some (.inl (w64 (i5 + 1), zs27)))
 (some (.inr b1))
def spec_VtabNew (ports0 : Int) : Option Vtab :=
 (spec_l1In ports0 1 6).bind fun t7 =>
 cond (!t7)
 (some ([], []))
 ((shl .i64 1 (IntKind.u64.wrap (ports0))).bind fun t12 =>
 (loop (fun z => spec_VtabNew_l0 ports0 z.1 z.2) (0, [])).bind fun d =>
 some ([(1, w64 (t12 - 1), w64 (t12 - 1))], d))
def F_spec_VtabNew : Fn := ⟨[.val false cNI false], [.val true cVtab true], fun a => spec_VtabNew a⟩
def a_spec_VtabNew : List (Nat × LoopAnn) := [(0, ⟨⟨[(5, false, [dI])], [(1054720, .box [.same 1052672, .own 1000000000]), (1000000000, .root cNI true)]⟩,
 ⟨[], [(1054720, .box [.same 1052672, .own 1000000300]), (1000000300, .root cNI true)]⟩, none⟩)]
theorem m_spec_VtabNew : Meets Tryz.prog 294 F_spec_VtabNew := mkM g_150 294 Tryz.f294 a_spec_VtabNew F_spec_VtabNew Tryz.func294 (by kernel_rfl) (by kernel_rfl) (by kernel_rfl)
def fns_294 : List (FuncId × Fn) := (294, F_spec_VtabNew) :: fns_150
theorem g_294 : Good Tryz.prog ⟨tis, fns_294, [], false⟩ := g_150.cons m_spec_VtabNew
def spec_BridgeNew_l0 (ports1 : Int) (i6 : Int) (b0 : Int) (b1 : List UInt8) (b6 : Int) (b7 : Int) (b8 : Int) (b9 : Int) (b10 : Int) (b2 : List Pt) (b3 : List Fent) : Option ((Int × Int × List UInt8 × Int × Int × Int × Int × Int × List Pt × List Fent) ⊕ (Int × List UInt8 × Int × Int × Int × Int × Int × List Pt × List Fent)) :=
 cond (decide (i6 < ports1))
 ((app b2 [(false, 1, false, 0, 0, 0, 0, 0)]).bind fun zs29 =>
 some (.inl (w64 (i6 + 1), b0, b1, b6, b7, b8, b9, b10, zs29, b3)))
 (some (.inr (b0, b1, b6, b7, b8, b9, b10, b2, b3)))
def spec_BridgeNew (id0 : Int) (ports1 : Int) : Option Bridge :=
 (spec_l1In id0 1 99).bind fun t8 =>
 (cond (!t8)
 (some true)
 ((spec_l1In ports1 1 6).bind fun t12 =>
 some (!t12))).bind fun t14 =>
 cond t14
 (some (0, [], [], [], [], [], 0, 0, 0, 0, 0))
 ((spec_VtabNew ports1).bind fun t18 =>
 (loop (fun z => spec_BridgeNew_l0 ports1 z.1 z.2.1 z.2.2.1 z.2.2.2.1 z.2.2.2.2.1 z.2.2.2.2.2.1 z.2.2.2.2.2.2.1 z.2.2.2.2.2.2.2.1 z.2.2.2.2.2.2.2.2.1 z.2.2.2.2.2.2.2.2.2) (0, id0, [], 0, 0, 0, 0, 0, [], [])).bind fun d =>
 some (d.1, d.2.1, d.2.2.2.2.2.2.2.1, d.2.2.2.2.2.2.2.2, t18.1, t18.2, d.2.2.1, d.2.2.2.1, d.2.2.2.2.1, d.2.2.2.2.2.1, d.2.2.2.2.2.2.1))
def F_spec_BridgeNew : Fn := ⟨[.val false cNI false, .val false cNI false], [.val true cBridge true], fun a => spec_BridgeNew a.1 a.2⟩
def a_spec_BridgeNew : List (Nat × LoopAnn) := [(0, ⟨⟨[(6, false, [dI])], [(791552, .box [dI, dS, .own 1000000000, .own 1000000001, .same 789504, .same 789505, dI, dI, dI, dI, dI]), (1000000000, .root cPt true), (1000000001, .root cFent true)]⟩,
 ⟨[], [(791552, .box [dI, dS, .own 1000000300, .own 1000000301, .same 789504, .same 789505, dI, dI, dI, dI, dI]), (1000000300, .root cPt true), (1000000301, .root cFent true)]⟩, none⟩)]
theorem m_spec_BridgeNew : Meets Tryz.prog 181 F_spec_BridgeNew := mkM g_294 181 Tryz.f181 a_spec_BridgeNew F_spec_BridgeNew Tryz.func181 (by kernel_rfl) (by kernel_rfl) (by kernel_rfl)
def fns_181 : List (FuncId × Fn) := (181, F_spec_BridgeNew) :: fns_294
theorem g_181 : Good Tryz.prog ⟨tis, fns_181, [], false⟩ := g_294.cons m_spec_BridgeNew
def spec_l1Str (c0 : L1Cur) (list1 : List (List UInt8)) : Option (L1Cur × List UInt8) :=
 (spec_l1Below c0 (list1.length : Int)).bind fun t9 =>
 (at? list1 t9.2).bind fun x10 =>
 some (t9.1, x10)
def F_spec_l1Str : Fn := ⟨[.ptr cL1Cur false, .val false (.one (.sl cNS)) false], [.val false cNS true], fun a => spec_l1Str a.1 a.2⟩
theorem m_spec_l1Str : Meets Tryz.prog 182 F_spec_l1Str := mkM g_181 182 Tryz.f182 [] F_spec_l1Str Tryz.func182 (by kernel_rfl) (by kernel_rfl) (by kernel_rfl)
def fns_182 : List (FuncId × Fn) := (182, F_spec_l1Str) :: fns_181
theorem g_182 : Good Tryz.prog ⟨tis, fns_182, [], false⟩ := g_181.cons m_spec_l1Str
def spec_l1Int (c0 : L1Cur) (list1 : List Int) : Option (L1Cur × Int) :=
 (spec_l1Below c0 (list1.length : Int)).bind fun t9 =>
 (at? list1 t9.2).bind fun x10 =>
 some (t9.1, x10)
def F_spec_l1Int : Fn := ⟨[.ptr cL1Cur false, .val false cNN false], [.val false cNI true], fun a => spec_l1Int a.1 a.2⟩
theorem m_spec_l1Int : Meets Tryz.prog 188 F_spec_l1Int := mkM g_182 188 Tryz.f188 [] F_spec_l1Int Tryz.func188 (by kernel_rfl) (by kernel_rfl) (by kernel_rfl)
def fns_188 : List (FuncId × Fn) := (188, F_spec_l1Int) :: fns_182
theorem g_188 : Good Tryz.prog ⟨tis, fns_188, [], false⟩ := g_182.cons m_spec_l1Int
def spec_l7Draw (c0 : L1Cur) : Option (L1Cur × Vec) :=
 (spec_l1Below c0 5).bind fun t4 =>
 (spec_l1Int t4.1 ([0, 1, 2, 5, 10, 100] : List Int)).bind fun t8 =>
 (spec_l1Int t8.1 ([0, 1, 2, 9, 10] : List Int)).bind fun t11 =>
 (spec_l1Below t11.1 5).bind fun t13 =>
 (spec_l1Below t13.1 4).bind fun t16 =>
 some (t16.1, (w64 (1 + t4.2), t8.2, t11.2, w64 (1 + t13.2), t16.2))
def F_spec_l7Draw : Fn := ⟨[.ptr cL1Cur false], [.val true cVec true], fun a => spec_l7Draw a⟩
theorem m_spec_l7Draw : Meets Tryz.prog 295 F_spec_l7Draw := mkM g_188 295 Tryz.f295 [] F_spec_l7Draw Tryz.func295 (by kernel_rfl) (by kernel_rfl) (by kernel_rfl)
def fns_295 : List (FuncId × Fn) := (295, F_spec_l7Draw) :: fns_188
theorem g_295 : Good Tryz.prog ⟨tis, fns_295, [], false⟩ := g_188.cons m_spec_l7Draw
def spec_l10Draw_l0 (n1 : Int) (i6 : Int) (b0 : List Int) (b1 : Int) (b2 : Int) (out5 : List Pt) : Option ((Int × List Int × Int × Int × List Pt) ⊕ (List Int × Int × Int × List Pt)) :=
 cond (decide (i6 < n1))
 ((spec_l1Once (b0, b1, b2) 4).bind fun t15 =>
 (spec_l1Int t15.1 ([1, 1, 2, 5, 10] : List Int)).bind fun t19 =>
 cond (!t15.2)
 ((spec_l1Once t19.1 4).bind fun t25 =>
 cond (!t25.2)
 ((spec_l7Draw t25.1).bind fun t30 =>
 (app out5 [(!t15.2, t19.2, true, t30.2.1, t30.2.2.1, t30.2.2.2.1, t30.2.2.2.2.1, t30.2.2.2.2.2)]).bind fun zs35 =>
 some (.inl (w64 (i6 + 1), t30.1.1, t30.1.2.1, t30.1.2.2, zs35)))
 ((app out5 [(!t15.2, t19.2, false, 0, 0, 0, 0, 0)]).bind fun zs35_1 =>
 some (.inl (w64 (i6 + 1), t25.1.1, t25.1.2.1, t25.1.2.2, zs35_1))))
 ((app out5 [(!t15.2, t19.2, false, 0, 0, 0, 0, 0)]).bind fun zs35_2 =>
 some (.inl (w64 (i6 + 1), t19.1.1, t19.1.2.1, t19.1.2.2, zs35_2))))
 (some (.inr (b0, b1, b2, out5)))
def spec_l10Draw (c0 : L1Cur) (n1 : Int) : Option (L1Cur × List Pt) :=
 (loop (fun z => spec_l10Draw_l0 n1 z.1 z.2.1 z.2.2.1 z.2.2.2.1 z.2.2.2.2) (0, c0.1, c0.2.1, c0.2.2, ([] : List Pt))).bind fun d =>
 some ((d.1, d.2.1, d.2.2.1), d.2.2.2)
def F_spec_l10Draw : Fn := ⟨[.ptr cL1Cur false, .val false cNI false], [.val false (.one (.sl cPt)) true], fun a => spec_l10Draw a.1 a.2⟩
def a_spec_l10Draw : List (Nat × LoopAnn) := [(0, ⟨⟨(5, false, [.own 1000000000]) :: (6, false, [dI]) :: us 24 3 [], [(1, .box [.dat (.sl (.one (.int .u8))), dI, dI]), (1000000000, .root cPt true)]⟩,
 ⟨[(5, false, [.own 1000000300])], [(1, .box [.dat (.sl (.one (.int .u8))), dI, dI]), (1000000300, .root cPt true)]⟩, none⟩)]
theorem m_spec_l10Draw : Meets Tryz.prog 183 F_spec_l10Draw := mkM g_295 183 Tryz.f183 a_spec_l10Draw F_spec_l10Draw Tryz.func183 (by kernel_rfl) (by kernel_rfl) (by kernel_rfl)
def fns_183 : List (FuncId × Fn) := (183, F_spec_l10Draw) :: fns_295
theorem g_183 : Good Tryz.prog ⟨tis, fns_183, [], false⟩ := g_295.cons m_spec_l10Draw
def spec_RowAt_l0 (v0 : Vtab) (id1 : Int) (i5 : Int) : Option (Int ⊕ (Unit ⊕ Int)) :=
 cond (decide (i5 < (v0.1.length : Int)))
 ((at? v0.1 i5).bind fun x16 =>
 cond (x16.1 == id1) (some (.inr (.inr i5))) (some (.inl (w64 (i5 + 1)))))
 (some (.inr (.inl ())))
def spec_RowAt (v0 : Vtab) (id1 : Int) : Option Int :=
 (loop (fun z => spec_RowAt_l0 v0 id1 z) 0).bind (Sum.elim (fun d =>
 some (-1)) (fun r => some r))
def F_spec_RowAt : Fn := ⟨[.val true cVtab false, .val false cNI false], [.val false cNI true], fun a => spec_RowAt a.1 a.2⟩
def a_spec_RowAt : List (Nat × LoopAnn) := [(0, ⟨⟨[(5, false, [dI])], []⟩,
 ⟨[], []⟩, some ⟨[(4, false, [dI])], []⟩⟩)]
theorem m_spec_RowAt : Meets Tryz.prog 220 F_spec_RowAt := mkM g_183 220 Tryz.f220 a_spec_RowAt F_spec_RowAt Tryz.func220 (by kernel_rfl) (by kernel_rfl) (by kernel_rfl)
def fns_220 : List (FuncId × Fn) := (220, F_spec_RowAt) :: fns_183
theorem g_220 : Good Tryz.prog ⟨tis, fns_220, [], false⟩ := g_183.cons m_spec_RowAt
def spec_VtabOk_l0 (p0 : Vtab) (t27 : Int) (t6 : Int) : Option (Int ⊕ (Unit ⊕ Bool)) :=
 cond (decide (t6 < (p0.1.length : Int)))
 ((at? p0.1 t6).bind fun x39 =>
 (spec_l1In x39.1 1 99).bind fun t43 =>
 (cond (!t43)
 (some true)
 ((spec_l1In x39.2.1 0 (w64 (t27 - 1))).bind fun t49 =>
 some (!t49))).bind fun t51 =>
 (cond t51
 (some true)
 ((spec_l1In x39.2.2 0 (w64 (t27 - 1))).bind fun t56 =>
 some (!t56))).bind fun t58 =>
 (cond t58 (some true) (some ((band .i64 x39.2.2 x39.2.1) != x39.2.2))).bind fun t68 =>
 (cond t68
 (some true)
 ((cond (decide (t6 > 0))
 ((at? p0.1 (w64 (t6 - 1))).bind fun x77 =>
 some (decide (x77.1 ≥ x39.1)))
 (some false)).bind fun t83 =>
 some t83)).bind fun t84 =>
 cond t84 (some (.inr (.inr false))) (some (.inl (w64 (t6 + 1)))))
 (some (.inr (.inl ())))
def spec_VtabOk_l2 (p0 : Vtab) (t8 : Int) : Option (Int ⊕ (Unit ⊕ Bool)) :=
 cond (decide (t8 < (p0.2.length : Int)))
 ((at? p0.2 t8).bind fun x96 =>
 (spec_RowAt p0 x96).bind fun t98 =>
 cond (decide (t98 < 0)) (some (.inr (.inr false))) (some (.inl (w64 (t8 + 1)))))
 (some (.inr (.inl ())))
def spec_VtabOk (p0 : Vtab) (i1 : Int) : Option Bool :=
 (spec_l1In i1 1 6).bind fun t10 =>
 (cond (!t10) (some true) (some ((p0.2.length : Int) != i1))).bind fun t18 =>
 (cond t18 (some true) (some (decide ((p0.1.length : Int) > 6)))).bind fun t24 =>
 cond t24
 (some false)
 ((shl .i64 1 (IntKind.u64.wrap (i1))).bind fun t27 =>
 (loop (fun z => spec_VtabOk_l0 p0 t27 z) 0).bind (Sum.elim (fun d =>
 (loop (fun z => spec_VtabOk_l2 p0 z) 0).bind (Sum.elim (fun d_1 =>
 some true) (fun r => some r))) (fun r_1 => some r_1)))
def F_spec_VtabOk : Fn := ⟨[.val true cVtab false, .val false cNI false], [.val false cNB true], fun a => spec_VtabOk a.1 a.2⟩
def a_spec_VtabOk : List (Nat × LoopAnn) := [(0, ⟨⟨(6, false, [dI]) :: us 46 5 (us 53 5 (us 60 8 (us 70 14 []))), []⟩,
 ⟨[], []⟩, some ⟨[(4, false, [dB])], []⟩⟩),
 (2, ⟨⟨[(8, false, [dI])], []⟩,
 ⟨[], []⟩, some ⟨[(4, false, [dB])], []⟩⟩)]
theorem m_spec_VtabOk : Meets Tryz.prog 97 F_spec_VtabOk := mkM g_220 97 Tryz.f97 a_spec_VtabOk F_spec_VtabOk Tryz.func97 (by kernel_rfl) (by kernel_rfl) (by kernel_rfl)
def fns_97 : List (FuncId × Fn) := (97, F_spec_VtabOk) :: fns_220
theorem g_97 : Good Tryz.prog ⟨tis, fns_97, [], false⟩ := g_220.cons m_spec_VtabOk
def spec_l9Copy (v0 : Vtab) : Option Vtab :=
 (app ([] : List Vrow) v0.1).bind fun zs6 =>
 (app ([] : List Int) v0.2).bind fun zs10 =>
 some (zs6, zs10)
def F_spec_l9Copy : Fn := ⟨[.val true cVtab false], [.val true cVtab true], fun a => spec_l9Copy a⟩
theorem m_spec_l9Copy : Meets Tryz.prog 212 F_spec_l9Copy := mkM g_97 212 Tryz.f212 [] F_spec_l9Copy Tryz.func212 (by kernel_rfl) (by kernel_rfl) (by kernel_rfl)
def fns_212 : List (FuncId × Fn) := (212, F_spec_l9Copy) :: fns_97
theorem g_212 : Good Tryz.prog ⟨tis, fns_212, [], false⟩ := g_97.cons m_spec_l9Copy
def spec_l9Or (x0 : Vtab) (v1 : Vtab) : Option (Vtab × Bool) :=
 (spec_VtabOk x0 (v1.2.length : Int)).bind fun t10 =>
 cond (!t10)
 ((spec_l9Copy v1).bind fun t13 =>
 some (t13, false))
 (some (x0, true))
def F_spec_l9Or : Fn := ⟨[.val true cVtab true, .val true cVtab false], [.val true cVtab true, .val false cNB true], fun a => spec_l9Or a.1 a.2⟩
theorem m_spec_l9Or : Meets Tryz.prog 352 F_spec_l9Or := mkM g_212 352 Tryz.f352 [] F_spec_l9Or Tryz.func352 (by kernel_rfl) (by kernel_rfl) (by kernel_rfl)
def fns_352 : List (FuncId × Fn) := (352, F_spec_l9Or) :: fns_212
theorem g_352 : Good Tryz.prog ⟨tis, fns_352, [], false⟩ := g_212.cons m_spec_l9Or
def spec_SetPvid (v0 : Vtab) (port1 : Int) (id2 : Int) : Option (Vtab × Bool) :=
 (spec_VtabOk v0 (v0.2.length : Int)).bind fun t13 =>
 (cond (!t13)
 (some true)
 ((spec_l1In port1 0 (w64 ((v0.2.length : Int) - 1))).bind fun t21 =>
 some (!t21))).bind fun t23 =>
 cond t23
 ((spec_l9Copy v0).bind fun t25 =>
 some (t25, false))
 ((spec_l9Copy v0).bind fun t27 =>
 (ix t27.2.length port1).bind fun j32 =>
 (t27.2[j32]?).bind fun x =>
 (spec_l9Or (t27.1, t27.2.set j32 id2) v0).bind fun t35 =>
 some t35)
def F_spec_SetPvid : Fn := ⟨[.val true cVtab false, .val false cNI false, .val false cNI false], [.val true cVtab true, .val false cNB true], fun a => spec_SetPvid a.1 a.2.1 a.2.2⟩
theorem m_spec_SetPvid : Meets Tryz.prog 296 F_spec_SetPvid := mkM g_352 296 Tryz.f296 [] F_spec_SetPvid Tryz.func296 (by kernel_rfl) (by kernel_rfl) (by kernel_rfl)
def fns_296 : List (FuncId × Fn) := (296, F_spec_SetPvid) :: fns_352
theorem g_296 : Good Tryz.prog ⟨tis, fns_296, [], false⟩ := g_352.cons m_spec_SetPvid
def spec_DropRow (v0 : Vtab) (id1 : Int) : Option (Vtab × Bool) :=
 (spec_RowAt v0 id1).bind fun t10 =>
 (spec_VtabOk v0 (v0.2.length : Int)).bind fun t15 =>
 (cond (!t15) (some true) (some (decide (t10 < 0)))).bind fun t20 =>
 cond t20
 ((spec_l9Copy v0).bind fun t22 =>
 some (t22, false))
 ((spec_l9Copy v0).bind fun t24 =>
 (cut v0.1 0 t10).bind fun t29 =>
 (app ([] : List Vrow) t29).bind fun zs30 =>
 (cut v0.1 (w64 (t10 + 1)) (v0.1.length : Int)).bind fun t35 =>
 (app zs30 t35).bind fun zs36 =>
 (spec_l9Or (zs36, t24.2) v0).bind fun t40 =>
 some t40)
def F_spec_DropRow : Fn := ⟨[.val true cVtab false, .val false cNI false], [.val true cVtab true, .val false cNB true], fun a => spec_DropRow a.1 a.2⟩
theorem m_spec_DropRow : Meets Tryz.prog 297 F_spec_DropRow := mkM g_296 297 Tryz.f297 [] F_spec_DropRow Tryz.func297 (by kernel_rfl) (by kernel_rfl) (by kernel_rfl)
def fns_297 : List (FuncId × Fn) := (297, F_spec_DropRow) :: fns_296
theorem g_297 : Good Tryz.prog ⟨tis, fns_297, [], false⟩ := g_296.cons m_spec_DropRow
def spec_l9Row_l0 (p0 : Vtab) (i1 : Vrow) (t6 : Bool) (t7 : Int) (b0 : List Vrow) : Option ((Bool × Int × List Vrow) ⊕ (Bool × List Vrow)) :=
 cond (decide (t7 < (p0.1.length : Int)))
 ((cond (!t6)
 ((at? p0.1 t7).bind fun x26 =>
 some (decide (x26.1 ≥ i1.1)))
 (some false)).bind fun t32 =>
 cond t32
 ((app b0 [i1]).bind fun zs37 =>
 (at? p0.1 t7).bind fun x42 =>
 cond (x42.1 != i1.1)
 ((at? p0.1 t7).bind fun x53 =>
 (app zs37 [x53]).bind fun zs56 =>
 some (.inl (true, w64 (t7 + 1), zs56)))
 (some (.inl (true, w64 (t7 + 1), zs37))))
 ((at? p0.1 t7).bind fun x42_1 =>
 cond (x42_1.1 != i1.1)
 ((at? p0.1 t7).bind fun x53_1 =>
 (app b0 [x53_1]).bind fun zs56_1 =>
 some (.inl (t6, w64 (t7 + 1), zs56_1)))
 (some (.inl (t6, w64 (t7 + 1), b0)))))
 (some (.inr (t6, b0)))
def spec_l9Row (p0 : Vtab) (i1 : Vrow) : Option Vtab :=
 (app ([] : List Int) p0.2).bind fun zs11 =>
 (loop (fun z => spec_l9Row_l0 p0 i1 z.1 z.2.1 z.2.2) (false, 0, [])).bind fun d =>
 cond (!d.1)
 ((app d.2 [i1]).bind fun zs64 =>
 some (zs64, zs11))
 (some (d.2, zs11))
def F_spec_l9Row : Fn := ⟨[.val true cVtab false, .val true cVrow false], [.val true cVtab true], fun a => spec_l9Row a.1 a.2⟩
def a_spec_l9Row : List (Nat × LoopAnn) := [(0, ⟨⟨(6, false, [dB]) :: (7, false, [dI]) :: us 23 9 [], [(268288, .box [.own 1000000000, .same 266240]), (1000000000, .root cVrow true)]⟩,
 ⟨[(6, false, [dB])], [(268288, .box [.own 1000000300, .same 266240]), (1000000300, .root cVrow true)]⟩, none⟩)]
theorem m_spec_l9Row : Meets Tryz.prog 313 F_spec_l9Row := mkM g_297 313 Tryz.f313 a_spec_l9Row F_spec_l9Row Tryz.func313 (by kernel_rfl) (by kernel_rfl) (by kernel_rfl)
def fns_313 : List (FuncId × Fn) := (313, F_spec_l9Row) :: fns_297
theorem g_313 : Good Tryz.prog ⟨tis, fns_313, [], false⟩ := g_297.cons m_spec_l9Row
def spec_PutRow (v0 : Vtab) (r1 : Vrow) : Option (Vtab × Bool) :=
 (spec_VtabOk v0 (v0.2.length : Int)).bind fun t10 =>
 cond (!t10)
 ((spec_l9Copy v0).bind fun t13 =>
 some (t13, false))
 ((spec_l9Row v0 r1).bind fun t16 =>
 (spec_l9Or t16 v0).bind fun t18 =>
 some t18)
def F_spec_PutRow : Fn := ⟨[.val true cVtab false, .val true cVrow false], [.val true cVtab true, .val false cNB true], fun a => spec_PutRow a.1 a.2⟩
theorem m_spec_PutRow : Meets Tryz.prog 298 F_spec_PutRow := mkM g_313 298 Tryz.f298 [] F_spec_PutRow Tryz.func298 (by kernel_rfl) (by kernel_rfl) (by kernel_rfl)
def fns_298 : List (FuncId × Fn) := (298, F_spec_PutRow) :: fns_313
theorem g_298 : Good Tryz.prog ⟨tis, fns_298, [], false⟩ := g_313.cons m_spec_PutRow
def spec_l9Row2 (c0 : L1Cur) (ports1 : Int) : Option (L1Cur × Vrow) :=
 (shl .i64 1 (IntKind.u64.wrap (ports1))).bind fun t9 =>
 (spec_l1Below c0 (w64 ((w64 (t9 - 1)) + 1))).bind fun t14 =>
 (spec_l1Int t14.1 ([1, 2, 3, 2] : List Int)).bind fun t17 =>
 (spec_l1Below t17.1 (w64 ((w64 (t9 - 1)) + 1))).bind fun t23 =>
 some (t23.1, (t17.2, t14.2, band .i64 t14.2 t23.2))
def F_spec_l9Row2 : Fn := ⟨[.ptr cL1Cur false, .val false cNI false], [.val true cVrow true], fun a => spec_l9Row2 a.1 a.2⟩
theorem m_spec_l9Row2 : Meets Tryz.prog 299 F_spec_l9Row2 := mkM g_298 299 Tryz.f299 [] F_spec_l9Row2 Tryz.func299 (by kernel_rfl) (by kernel_rfl) (by kernel_rfl)
def fns_299 : List (FuncId × Fn) := (299, F_spec_l9Row2) :: fns_298
theorem g_299 : Good Tryz.prog ⟨tis, fns_299, [], false⟩ := g_298.cons m_spec_l9Row2
def spec_l9Draw_l0 (ports1 : Int) (i6 : Int) (b0 : List Int) (b1 : Int) (b2 : Int) (b0_1 : List Vrow) (b1_1 : List Int) : Option ((Int × List Int × Int × Int × List Vrow × List Int) ⊕ (List Int × Int × Int × List Vrow × List Int)) :=
 cond (decide (i6 > 0))
 ((spec_l1Below (b0, b1, b2) 4).bind fun t16 =>
 cond (t16.2 == 0)
 ((spec_l1Below t16.1 ports1).bind fun t31 =>
 (spec_l1Below t31.1 3).bind fun t33 =>
 (spec_SetPvid (b0_1, b1_1) t31.2 (w64 (1 + t33.2))).bind fun t35 =>
 some (.inl (w64 (i6 - 1), t33.1.1, t33.1.2.1, t33.1.2.2, t35.1.1, t35.1.2)))
 (cond (t16.2 == 1)
 ((spec_l1Below t16.1 2).bind fun t43 =>
 (spec_DropRow (b0_1, b1_1) (w64 (2 + t43.2))).bind fun t45 =>
 some (.inl (w64 (i6 - 1), t43.1.1, t43.1.2.1, t43.1.2.2, t45.1.1, t45.1.2)))
 ((spec_l9Row2 t16.1 ports1).bind fun t21 =>
 (spec_PutRow (b0_1, b1_1) t21.2).bind fun t22 =>
 some (.inl (w64 (i6 - 1), t21.1.1, t21.1.2.1, t21.1.2.2, t22.1.1, t22.1.2)))))
 (some (.inr (b0, b1, b2, b0_1, b1_1)))
def spec_l9Draw (c0 : L1Cur) (ports1 : Int) : Option (L1Cur × Vtab) :=
 (spec_VtabNew ports1).bind fun t8 =>
 (spec_l1Below c0 6).bind fun t10 =>
 (loop (fun z => spec_l9Draw_l0 ports1 z.1 z.2.1 z.2.2.1 z.2.2.2.1 z.2.2.2.2.1 z.2.2.2.2.2) (t10.2, t10.1.1, t10.1.2.1, t10.1.2.2, t8.1, t8.2)).bind fun d =>
 some ((d.1, d.2.1, d.2.2.1), d.2.2.2)
def F_spec_l9Draw : Fn := ⟨[.ptr cL1Cur false, .val false cNI false], [.val true cVtab true], fun a => spec_l9Draw a.1 a.2⟩
def a_spec_l9Draw : List (Nat × LoopAnn) := [(0, ⟨⟨[(6, false, [dI])], [(1, .box [.dat (.sl (.one (.int .u8))), dI, dI]), (265216, .box [.own 1000000000, .own 1000000001]), (1000000000, .root cVrow true), (1000000001, .root cNI true)]⟩,
 ⟨[], [(1, .box [.dat (.sl (.one (.int .u8))), dI, dI]), (265216, .box [.own 1000000300, .own 1000000301]), (1000000300, .root cVrow true), (1000000301, .root cNI true)]⟩, none⟩)]
theorem m_spec_l9Draw : Meets Tryz.prog 184 F_spec_l9Draw := mkM g_299 184 Tryz.f184 a_spec_l9Draw F_spec_l9Draw Tryz.func184 (by kernel_rfl) (by kernel_rfl) (by kernel_rfl)
def fns_184 : List (FuncId × Fn) := (184, F_spec_l9Draw) :: fns_299
theorem g_184 : Good Tryz.prog ⟨tis, fns_184, [], false⟩ := g_299.cons m_spec_l9Draw
def spec_l8Copy (l0 : List Fent) : Option (List Fent) :=
 (app ([] : List Fent) l0).bind fun zs5 =>
 some zs5
def F_spec_l8Copy : Fn := ⟨[.val false (.one (.sl cFent)) false], [.val false (.one (.sl cFent)) true], fun a => spec_l8Copy a⟩
theorem m_spec_l8Copy : Meets Tryz.prog 211 F_spec_l8Copy := mkM g_184 211 Tryz.f211 [] F_spec_l8Copy Tryz.func211 (by kernel_rfl) (by kernel_rfl) (by kernel_rfl)
def fns_211 : List (FuncId × Fn) := (211, F_spec_l8Copy) :: fns_184
theorem g_211 : Good Tryz.prog ⟨tis, fns_211, [], false⟩ := g_184.cons m_spec_l8Copy
def spec_l8Ent (e0 : Fent) : Option Bool :=
 (spec_l1In e0.1 1 99).bind fun t5 =>
 (cond t5
 ((spec_l1In e0.2.1 1 9999).bind fun t9 =>
 some t9)
 (some false)).bind fun t10 =>
 (cond t10
 ((spec_l1In e0.2.2.1 0 7).bind fun t14 =>
 some t14)
 (some false)).bind fun t15 =>
 (cond t15
 ((spec_l1In e0.2.2.2.1 0 4).bind fun t19 =>
 some t19)
 (some false)).bind fun t20 =>
 (cond t20
 ((cond (!e0.2.2.2.2) (some true) (some (e0.2.2.2.1 == 0))).bind fun t29 =>
 some t29)
 (some false)).bind fun t30 =>
 some t30
def F_spec_l8Ent : Fn := ⟨[.val true cFent false], [.val false cNB true], fun a => spec_l8Ent a⟩
theorem m_spec_l8Ent : Meets Tryz.prog 301 F_spec_l8Ent := mkM g_211 301 Tryz.f301 [] F_spec_l8Ent Tryz.func301 (by kernel_rfl) (by kernel_rfl) (by kernel_rfl)
def fns_301 : List (FuncId × Fn) := (301, F_spec_l8Ent) :: fns_211
theorem g_301 : Good Tryz.prog ⟨tis, fns_301, [], false⟩ := g_211.cons m_spec_l8Ent
def spec_l8Ahead (e0 : Fent) (tag1 : Int) (mac2 : Int) : Option Bool :=
 cond (e0.1 != tag1) (some (decide (e0.1 < tag1))) (some (decide (e0.2.1 < mac2)))
def F_spec_l8Ahead : Fn := ⟨[.val true cFent false, .val false cNI false, .val false cNI false], [.val false cNB true], fun a => spec_l8Ahead a.1 a.2.1 a.2.2⟩
theorem m_spec_l8Ahead : Meets Tryz.prog 310 F_spec_l8Ahead := mkM g_301 310 Tryz.f310 [] F_spec_l8Ahead Tryz.func310 (by kernel_rfl) (by kernel_rfl) (by kernel_rfl)
def fns_310 : List (FuncId × Fn) := (310, F_spec_l8Ahead) :: fns_301
theorem g_310 : Good Tryz.prog ⟨tis, fns_310, [], false⟩ := g_301.cons m_spec_l8Ahead
def spec_FdbOk_l0 (l0 : List Fent) (i3 : Int) : Option (Int ⊕ (Unit ⊕ Bool)) :=
 cond (decide (i3 < (l0.length : Int)))
 ((at? l0 i3).bind fun x12 =>
 (spec_l8Ent x12).bind fun t14 =>
 (cond (!t14)
 (some true)
 ((cond (decide (i3 > 0))
 ((at? l0 (w64 (i3 - 1))).bind fun x23 =>
 (at? l0 i3).bind fun x27 =>
 (at? l0 i3).bind fun x32 =>
 (spec_l8Ahead x23 x27.1 x32.2.1).bind fun t35 =>
 some (!t35))
 (some false)).bind fun t37 =>
 some t37)).bind fun t38 =>
 cond t38 (some (.inr (.inr false))) (some (.inl (w64 (i3 + 1)))))
 (some (.inr (.inl ())))
def spec_FdbOk (l0 : List Fent) : Option Bool :=
 (loop (fun z => spec_FdbOk_l0 l0 z) 0).bind (Sum.elim (fun d =>
 let t2 := decide ((l0.length : Int) ≤ 12)
 some t2) (fun r => some r))
def F_spec_FdbOk : Fn := ⟨[.val false (.one (.sl cFent)) false], [.val false cNB true], fun a => spec_FdbOk a⟩
def a_spec_FdbOk : List (Nat × LoopAnn) := [(0, ⟨⟨(3, false, [dI]) :: us 17 21 [], []⟩,
 ⟨[], []⟩, some ⟨[(2, false, [dB])], []⟩⟩)]
theorem m_spec_FdbOk : Meets Tryz.prog 214 F_spec_FdbOk := mkM g_310 214 Tryz.f214 a_spec_FdbOk F_spec_FdbOk Tryz.func214 (by kernel_rfl) (by kernel_rfl) (by kernel_rfl)
def fns_214 : List (FuncId × Fn) := (214, F_spec_FdbOk) :: fns_310
theorem g_214 : Good Tryz.prog ⟨tis, fns_214, [], false⟩ := g_310.cons m_spec_FdbOk
def spec_l8At_l0 (l0 : List Fent) (tag1 : Int) (mac2 : Int) (i7 : Int) : Option (Int ⊕ (Unit ⊕ Int)) :=
 cond (decide (i7 < (l0.length : Int)))
 ((at? l0 i7).bind fun x16 =>
 (cond (x16.1 == tag1)
 ((at? l0 i7).bind fun x24 =>
 some (x24.2.1 == mac2))
 (some false)).bind fun t29 =>
 cond t29 (some (.inr (.inr i7))) (some (.inl (w64 (i7 + 1)))))
 (some (.inr (.inl ())))
def spec_l8At (l0 : List Fent) (tag1 : Int) (mac2 : Int) : Option Int :=
 (loop (fun z => spec_l8At_l0 l0 tag1 mac2 z) 0).bind (Sum.elim (fun d =>
 some (-1)) (fun r => some r))
def F_spec_l8At : Fn := ⟨[.val false (.one (.sl cFent)) false, .val false cNI false, .val false cNI false], [.val false cNI true], fun a => spec_l8At a.1 a.2.1 a.2.2⟩
def a_spec_l8At : List (Nat × LoopAnn) := [(0, ⟨⟨(7, false, [dI]) :: us 22 7 [], []⟩,
 ⟨[], []⟩, some ⟨[(6, false, [dI])], []⟩⟩)]
theorem m_spec_l8At : Meets Tryz.prog 300 F_spec_l8At := mkM g_214 300 Tryz.f300 a_spec_l8At F_spec_l8At Tryz.func300 (by kernel_rfl) (by kernel_rfl) (by kernel_rfl)
def fns_300 : List (FuncId × Fn) := (300, F_spec_l8At) :: fns_214
theorem g_300 : Good Tryz.prog ⟨tis, fns_300, [], false⟩ := g_214.cons m_spec_l8At
def spec_l8Put_l0 (p0 : List Fent) (i1 : Fent) (t6 : Bool) (t7 : Int) (t5 : List Fent) : Option ((Bool × Int × List Fent) ⊕ (Bool × List Fent)) :=
 cond (decide (t7 < (p0.length : Int)))
 ((cond (!t6)
 ((at? p0 t7).bind fun x20 =>
 (spec_l8Ahead x20 i1.1 i1.2.1).bind fun t26 =>
 some (!t26))
 (some false)).bind fun t28 =>
 cond t28
 ((app t5 [i1]).bind fun zs32 =>
 (at? p0 t7).bind fun x35 =>
 (cond (x35.1 != i1.1)
 (some true)
 ((at? p0 t7).bind fun x44 =>
 some (x44.2.1 != i1.2.1))).bind fun t50 =>
 cond t50
 ((at? p0 t7).bind fun x54 =>
 (app zs32 [x54]).bind fun zs57 =>
 some (.inl (true, w64 (t7 + 1), zs57)))
 (some (.inl (true, w64 (t7 + 1), zs32))))
 ((at? p0 t7).bind fun x35_1 =>
 (cond (x35_1.1 != i1.1)
 (some true)
 ((at? p0 t7).bind fun x44_1 =>
 some (x44_1.2.1 != i1.2.1))).bind fun t50_1 =>
 cond t50_1
 ((at? p0 t7).bind fun x54_1 =>
 (app t5 [x54_1]).bind fun zs57_1 =>
 some (.inl (t6, w64 (t7 + 1), zs57_1)))
 (some (.inl (t6, w64 (t7 + 1), t5)))))
 (some (.inr (t6, t5)))
def spec_l8Put (p0 : List Fent) (i1 : Fent) : Option (List Fent) :=
 (loop (fun z => spec_l8Put_l0 p0 i1 z.1 z.2.1 z.2.2) (false, 0, ([] : List Fent))).bind fun d =>
 cond (!d.1)
 ((app d.2 [i1]).bind fun zs63 =>
 some zs63)
 (some d.2)
def F_spec_l8Put : Fn := ⟨[.val false (.one (.sl cFent)) false, .val true cFent false], [.val false (.one (.sl cFent)) true], fun a => spec_l8Put a.1 a.2⟩
def a_spec_l8Put : List (Nat × LoopAnn) := [(0, ⟨⟨(5, false, [.own 1000000000]) :: (6, false, [dB]) :: (7, false, [dI]) :: us 18 10 (us 42 8 []), [(1000000000, .root cFent true)]⟩,
 ⟨[(5, false, [.own 1000000300]), (6, false, [dB])], [(1000000300, .root cFent true)]⟩, none⟩)]
theorem m_spec_l8Put : Meets Tryz.prog 302 F_spec_l8Put := mkM g_300 302 Tryz.f302 a_spec_l8Put F_spec_l8Put Tryz.func302 (by kernel_rfl) (by kernel_rfl) (by kernel_rfl)
def fns_302 : List (FuncId × Fn) := (302, F_spec_l8Put) :: fns_300
theorem g_302 : Good Tryz.prog ⟨tis, fns_302, [], false⟩ := g_300.cons m_spec_l8Put
def spec_Learn (l0 : List Fent) (tag1 : Int) (mac2 : Int) (port3 : Int) : Option (List Fent) :=
 (spec_l8At l0 tag1 mac2).bind fun t18 =>
 (spec_FdbOk l0).bind fun t20 =>
 (cond (!t20)
 (some true)
 ((spec_l8Ent (tag1, mac2, port3, 0, false)).bind fun t24 =>
 some (!t24))).bind fun t26 =>
 (cond t26
 (some true)
 ((cond (decide (t18 ≥ 0))
 ((at? l0 t18).bind fun x33 =>
 some x33.2.2.2.2)
 (some false)).bind fun t36 =>
 some t36)).bind fun t37 =>
 (cond t37
 (some true)
 ((cond (decide (t18 < 0)) (some (decide ((l0.length : Int) ≥ 12))) (some false)).bind fun t45 =>
 some t45)).bind fun t46 =>
 cond t46
 ((spec_l8Copy l0).bind fun t48 =>
 some t48)
 ((spec_l8Put l0 (tag1, mac2, port3, 0, false)).bind fun t51 =>
 some t51)
def F_spec_Learn : Fn := ⟨[.val false (.one (.sl cFent)) false, .val false cNI false, .val false cNI false, .val false cNI false], [.val false (.one (.sl cFent)) true], fun a => spec_Learn a.1 a.2.1 a.2.2.1 a.2.2.2⟩
theorem m_spec_Learn : Meets Tryz.prog 185 F_spec_Learn := mkM g_302 185 Tryz.f185 [] F_spec_Learn Tryz.func185 (by kernel_rfl) (by kernel_rfl) (by kernel_rfl)
def fns_185 : List (FuncId × Fn) := (185, F_spec_Learn) :: fns_302
theorem g_185 : Good Tryz.prog ⟨tis, fns_185, [], false⟩ := g_302.cons m_spec_Learn
def spec_l6Mac (c0 : L1Cur) : Option (L1Cur × Int) :=
 (spec_l1Int c0 ([11, 12, 13, 14] : List Int)).bind fun t5 =>
 some t5
def F_spec_l6Mac : Fn := ⟨[.ptr cL1Cur false], [.val false cNI true], fun a => spec_l6Mac a⟩
theorem m_spec_l6Mac : Meets Tryz.prog 186 F_spec_l6Mac := mkM g_185 186 Tryz.f186 [] F_spec_l6Mac Tryz.func186 (by kernel_rfl) (by kernel_rfl) (by kernel_rfl)
def fns_186 : List (FuncId × Fn) := (186, F_spec_l6Mac) :: fns_185
theorem g_186 : Good Tryz.prog ⟨tis, fns_186, [], false⟩ := g_185.cons m_spec_l6Mac
def spec_SetStatic (l0 : List Fent) (tag1 : Int) (mac2 : Int) (port3 : Int) : Option ((List Fent) × Bool) :=
 (spec_FdbOk l0).bind fun t16 =>
 (cond (!t16)
 (some true)
 ((spec_l8Ent (tag1, mac2, port3, 0, true)).bind fun t20 =>
 some (!t20))).bind fun t22 =>
 (cond t22
 (some true)
 ((spec_l8At l0 tag1 mac2).bind fun t27 =>
 (cond (decide (t27 < 0)) (some (decide ((l0.length : Int) ≥ 12))) (some false)).bind fun t33 =>
 some t33)).bind fun t34 =>
 cond t34
 ((spec_l8Copy l0).bind fun t36 =>
 some (t36, false))
 ((spec_l8Put l0 (tag1, mac2, port3, 0, true)).bind fun t39 =>
 some (t39, true))
def F_spec_SetStatic : Fn := ⟨[.val false (.one (.sl cFent)) false, .val false cNI false, .val false cNI false, .val false cNI false], [.val false (.one (.sl cFent)) true, .val false cNB true], fun a => spec_SetStatic a.1 a.2.1 a.2.2.1 a.2.2.2⟩
theorem m_spec_SetStatic : Meets Tryz.prog 187 F_spec_SetStatic := mkM g_186 187 Tryz.f187 [] F_spec_SetStatic Tryz.func187 (by kernel_rfl) (by kernel_rfl) (by kernel_rfl)
def fns_187 : List (FuncId × Fn) := (187, F_spec_SetStatic) :: fns_186
theorem g_187 : Good Tryz.prog ⟨tis, fns_187, [], false⟩ := g_186.cons m_spec_SetStatic
def spec_l11Draw_l0 (t7 : L1Cur × Int) (t5 : Int) (b0 : List Int) (b1 : Int) (b2 : Int) (b0_1 : Int) (b1_1 : List UInt8) (b6 : Int) (b7 : Int) (b8 : Int) (b9 : Int) (b10 : Int) (b3 : List Fent) : Option ((Int × List Int × Int × Int × Int × List UInt8 × Int × Int × Int × Int × Int × List Fent) ⊕ (List Int × Int × Int × Int × List UInt8 × Int × Int × Int × Int × Int × List Fent)) :=
 cond (decide (t5 > 0))
 ((spec_l1Below (b0, b1, b2) 3).bind fun t35 =>
 (spec_l6Mac t35.1).bind fun t38 =>
 (spec_l1Below t38.1 (w64 (1 + t7.2))).bind fun t41 =>
 (spec_Learn b3 (w64 (1 + t35.2)) t38.2 t41.2).bind fun t42 =>
 some (.inl (w64 (t5 - 1), t41.1.1, t41.1.2.1, t41.1.2.2, b0_1, b1_1, b6, b7, b8, b9, b10, t42)))
 (some (.inr (b0, b1, b2, b0_1, b1_1, b6, b7, b8, b9, b10, b3)))
def spec_l11Draw (p0 : L1Cur) : Option (L1Cur × Bridge) :=
 (spec_l1Below p0 4).bind fun t7 =>
 (spec_l1Below t7.1 5).bind fun t10 =>
 (spec_BridgeNew (w64 (1 + t10.2)) (w64 (1 + t7.2))).bind fun t13 =>
 (spec_l1Str t10.1 ([[], [121, 97, 114, 100], [98, 49]] : List (List UInt8))).bind fun t16 =>
 (spec_l10Draw t16.1 (w64 (1 + t7.2))).bind fun t20 =>
 (spec_l9Draw t20.1 (w64 (1 + t7.2))).bind fun t24 =>
 (spec_l1Below t24.1 6).bind fun t27 =>
 (loop (fun z => spec_l11Draw_l0 t7 z.1 z.2.1 z.2.2.1 z.2.2.2.1 z.2.2.2.2.1 z.2.2.2.2.2.1 z.2.2.2.2.2.2.1 z.2.2.2.2.2.2.2.1 z.2.2.2.2.2.2.2.2.1 z.2.2.2.2.2.2.2.2.2.1 z.2.2.2.2.2.2.2.2.2.2.1 z.2.2.2.2.2.2.2.2.2.2.2) (t27.2, t27.1.1, t27.1.2.1, t27.1.2.2, t13.1, t16.2, t13.2.2.2.2.2.2.1, t13.2.2.2.2.2.2.2.1, t13.2.2.2.2.2.2.2.2.1, t13.2.2.2.2.2.2.2.2.2.1, t13.2.2.2.2.2.2.2.2.2.2, t13.2.2.2.1)).bind fun d =>
 (spec_l1Once (d.1, d.2.1, d.2.2.1) 3).bind fun t45 =>
 cond t45.2
 ((spec_l6Mac t45.1).bind fun t50 =>
 (spec_l1Below t50.1 (w64 (1 + t7.2))).bind fun t53 =>
 (spec_SetStatic d.2.2.2.2.2.2.2.2.2.2 1 t50.2 t53.2).bind fun t54 =>
 (spec_l1Below t53.1 5).bind fun t59 =>
 (spec_l1Int t59.1 ([0, 1, 5, 1000000] : List Int)).bind fun t63 =>
 some (t63.1, (d.2.2.2.1, d.2.2.2.2.1, t20.2, t54.1, t24.2.1, t24.2.2, t59.2, d.2.2.2.2.2.2.1, d.2.2.2.2.2.2.2.1, d.2.2.2.2.2.2.2.2.1, t63.2)))
 ((spec_l1Below t45.1 5).bind fun t59_1 =>
 (spec_l1Int t59_1.1 ([0, 1, 5, 1000000] : List Int)).bind fun t63_1 =>
 some (t63_1.1, (d.2.2.2.1, d.2.2.2.2.1, t20.2, d.2.2.2.2.2.2.2.2.2.2, t24.2.1, t24.2.2, t59_1.2, d.2.2.2.2.2.2.1, d.2.2.2.2.2.2.2.1, d.2.2.2.2.2.2.2.2.1, t63_1.2)))
def F_spec_l11Draw : Fn := ⟨[.ptr cL1Cur false], [.val true cBridge true], fun a => spec_l11Draw a⟩
def a_spec_l11Draw : List (Nat × LoopAnn) := [(0, ⟨⟨[(5, false, [dI])], [(1, .box [.dat (.sl (.one (.int .u8))), dI, dI]), (530432, .box [dI, dS, .same 1051712, .own 1000000000, .same 1313856, .same 1313857, dI, dI, dI, dI, dI]), (1000000000, .root cFent true)]⟩,
 ⟨[], [(1, .box [.dat (.sl (.one (.int .u8))), dI, dI]), (530432, .box [dI, dS, .same 1051712, .own 1000000300, .same 1313856, .same 1313857, dI, dI, dI, dI, dI]), (1000000300, .root cFent true)]⟩, none⟩)]
theorem m_spec_l11Draw : Meets Tryz.prog 78 F_spec_l11Draw := mkM g_187 78 Tryz.f78 a_spec_l11Draw F_spec_l11Draw Tryz.func78 (by kernel_rfl) (by kernel_rfl) (by kernel_rfl)
def fns_78 : List (FuncId × Fn) := (78, F_spec_l11Draw) :: fns_187
theorem g_78 : Good Tryz.prog ⟨tis, fns_78, [], false⟩ := g_187.cons m_spec_l11Draw
def spec_VecOk (v0 : Vec) : Option Bool :=
 (spec_l1In v0.1 1 99).bind fun t5 =>
 (cond t5
 ((spec_l1In v0.2.1 0 100000).bind fun t9 =>
 some t9)
 (some false)).bind fun t10 =>
 (cond t10
 ((spec_l1In v0.2.2.1 0 10).bind fun t14 =>
 some t14)
 (some false)).bind fun t15 =>
 (cond t15
 ((spec_l1In v0.2.2.2.1 1 99).bind fun t19 =>
 some t19)
 (some false)).bind fun t20 =>
 (cond t20
 ((spec_l1In v0.2.2.2.2 0 7).bind fun t24 =>
 some t24)
 (some false)).bind fun t25 =>
 some t25
def F_spec_VecOk : Fn := ⟨[.val true cVec false], [.val false cNB true], fun a => spec_VecOk a⟩
theorem m_spec_VecOk : Meets Tryz.prog 255 F_spec_VecOk := mkM g_78 255 Tryz.f255 [] F_spec_VecOk Tryz.func255 (by kernel_rfl) (by kernel_rfl) (by kernel_rfl)
def fns_255 : List (FuncId × Fn) := (255, F_spec_VecOk) :: fns_78
theorem g_255 : Good Tryz.prog ⟨tis, fns_255, [], false⟩ := g_78.cons m_spec_VecOk
def spec_PtOk (p0 : Pt) : Option Bool :=
 (spec_l1In p0.2.1 1 1000).bind fun t5 =>
 (cond (!t5)
 (some true)
 ((cond (!p0.1) (some p0.2.2.1) (some false)).bind fun t14 =>
 some t14)).bind fun t15 =>
 cond t15
 (some false)
 (cond (!p0.2.2.1)
 (let t2 := p0.2.2.2.1 == 0 && (p0.2.2.2.2.1 == 0 && (p0.2.2.2.2.2.1 == 0 && (p0.2.2.2.2.2.2.1 == 0 && (p0.2.2.2.2.2.2.2 == 0))))
 some t2)
 ((spec_VecOk p0.2.2.2).bind fun t25 =>
 some t25))
def F_spec_PtOk : Fn := ⟨[.val true cPt false], [.val false cNB true], fun a => spec_PtOk a⟩
theorem m_spec_PtOk : Meets Tryz.prog 213 F_spec_PtOk := mkM g_255 213 Tryz.f213 [] F_spec_PtOk Tryz.func213 (by kernel_rfl) (by kernel_rfl) (by kernel_rfl)
def fns_213 : List (FuncId × Fn) := (213, F_spec_PtOk) :: fns_255
theorem g_213 : Good Tryz.prog ⟨tis, fns_213, [], false⟩ := g_255.cons m_spec_PtOk
def spec_l11Counts (b0 : Bridge) : Option Bool :=
 (spec_l1In b0.2.2.2.2.2.2.1 0 1000000).bind fun t5 =>
 (cond t5
 ((spec_l1In b0.2.2.2.2.2.2.2.1 0 1000000).bind fun t9 =>
 some t9)
 (some false)).bind fun t10 =>
 (cond t10
 ((spec_l1In b0.2.2.2.2.2.2.2.2.1 0 1000000).bind fun t14 =>
 some t14)
 (some false)).bind fun t15 =>
 (cond t15
 ((spec_l1In b0.2.2.2.2.2.2.2.2.2.1 0 1000000).bind fun t19 =>
 some t19)
 (some false)).bind fun t20 =>
 (cond t20
 ((spec_l1In b0.2.2.2.2.2.2.2.2.2.2 0 1000000).bind fun t24 =>
 some t24)
 (some false)).bind fun t25 =>
 some t25
def F_spec_l11Counts : Fn := ⟨[.val true cBridge false], [.val false cNB true], fun a => spec_l11Counts a⟩
theorem m_spec_l11Counts : Meets Tryz.prog 215 F_spec_l11Counts := mkM g_213 215 Tryz.f215 [] F_spec_l11Counts Tryz.func215 (by kernel_rfl) (by kernel_rfl) (by kernel_rfl)
def fns_215 : List (FuncId × Fn) := (215, F_spec_l11Counts) :: fns_213
theorem g_215 : Good Tryz.prog ⟨tis, fns_215, [], false⟩ := g_213.cons m_spec_l11Counts
def spec_BridgeOk_l0 (b0 : Bridge) (i3 : Int) : Option (Int ⊕ (Unit ⊕ Bool)) :=
 cond (decide (i3 < (b0.2.2.1.length : Int)))
 ((at? b0.2.2.1 i3).bind fun x14 =>
 (spec_PtOk x14).bind fun t16 =>
 cond (!t16) (some (.inr (.inr false))) (some (.inl (w64 (i3 + 1)))))
 (some (.inr (.inl ())))
def spec_BridgeOk (b0 : Bridge) : Option Bool :=
 (loop (fun z => spec_BridgeOk_l0 b0 z) 0).bind (Sum.elim (fun d =>
 (spec_l1In b0.1 1 99).bind fun t20 =>
 (cond t20 (some (decide ((b0.2.1.length : Int) ≤ 10))) (some false)).bind fun t26 =>
 (cond t26
 ((spec_l1In (b0.2.2.1.length : Int) 1 6).bind fun t31 =>
 some t31)
 (some false)).bind fun t32 =>
 (cond t32
 ((spec_FdbOk b0.2.2.2.1).bind fun t36 =>
 some t36)
 (some false)).bind fun t37 =>
 (cond t37
 ((spec_VtabOk (b0.2.2.2.2.1, b0.2.2.2.2.2.1) (b0.2.2.1.length : Int)).bind fun t44 =>
 some t44)
 (some false)).bind fun t45 =>
 (cond t45
 ((spec_l11Counts b0).bind fun t48 =>
 some t48)
 (some false)).bind fun t49 =>
 some t49) (fun r => some r))
def F_spec_BridgeOk : Fn := ⟨[.val true cBridge false], [.val false cNB true], fun a => spec_BridgeOk a⟩
def a_spec_BridgeOk : List (Nat × LoopAnn) := [(0, ⟨⟨[(3, false, [dI])], []⟩,
 ⟨[], []⟩, some ⟨[(2, false, [dB])], []⟩⟩)]
theorem m_spec_BridgeOk : Meets Tryz.prog 94 F_spec_BridgeOk := mkM g_215 94 Tryz.f94 a_spec_BridgeOk F_spec_BridgeOk Tryz.func94 (by kernel_rfl) (by kernel_rfl) (by kernel_rfl)
def fns_94 : List (FuncId × Fn) := (94, F_spec_BridgeOk) :: fns_215
theorem g_94 : Good Tryz.prog ⟨tis, fns_94, [], false⟩ := g_215.cons m_spec_BridgeOk
def spec_l17Name (l0 : List Int) : Option (List Int) :=
 (app ([1, 3, 1] : List Int) l0).bind fun zs5 =>
 some zs5
def F_spec_l17Name : Fn := ⟨[.val false cNN false], [.val false cNN true], fun a => spec_l17Name a⟩
theorem m_spec_l17Name : Meets Tryz.prog 190 F_spec_l17Name := mkM g_94 190 Tryz.f190 [] F_spec_l17Name Tryz.func190 (by kernel_rfl) (by kernel_rfl) (by kernel_rfl)
def fns_190 : List (FuncId × Fn) := (190, F_spec_l17Name) :: fns_94
theorem g_190 : Good Tryz.prog ⟨tis, fns_190, [], false⟩ := g_94.cons m_spec_l17Name
def spec_l3Int (n0 : Int) : Option Val :=
 some (2, n0, [], [])
def F_spec_l3Int : Fn := ⟨[.val false cNI false], [.val true cVal true], fun a => spec_l3Int a⟩
theorem m_spec_l3Int : Meets Tryz.prog 229 F_spec_l3Int := mkM g_190 229 Tryz.f229 [] F_spec_l3Int Tryz.func229 (by kernel_rfl) (by kernel_rfl) (by kernel_rfl)
def fns_229 : List (FuncId × Fn) := (229, F_spec_l3Int) :: fns_190
theorem g_229 : Good Tryz.prog ⟨tis, fns_229, [], false⟩ := g_190.cons m_spec_l3Int
def spec_l17Add (out0 : List Bind) (name1 : List Int) (n2 : Int) : Option (List Bind) :=
 (spec_l17Name name1).bind fun t9 =>
 (spec_l3Int n2).bind fun t11 =>
 (app out0 [(t9, t11.1, t11.2.1, t11.2.2.1, t11.2.2.2)]).bind fun zs14 =>
 some zs14
def F_spec_l17Add : Fn := ⟨[.val false (.one (.sl cBind)) true, .val false cNN false, .val false cNI false], [.val false (.one (.sl cBind)) true], fun a => spec_l17Add a.1 a.2.1 a.2.2⟩
theorem m_spec_l17Add : Meets Tryz.prog 303 F_spec_l17Add := mkM g_229 303 Tryz.f303 [] F_spec_l17Add Tryz.func303 (by kernel_rfl) (by kernel_rfl) (by kernel_rfl)
def fns_303 : List (FuncId × Fn) := (303, F_spec_l17Add) :: fns_229
theorem g_303 : Good Tryz.prog ⟨tis, fns_303, [], false⟩ := g_229.cons m_spec_l17Add
def spec_LessVec (a0 : Vec) (b1 : Vec) : Option Bool :=
 cond (a0.1 != b1.1)
 (some (decide (a0.1 < b1.1)))
 (cond (a0.2.1 != b1.2.1)
 (some (decide (a0.2.1 < b1.2.1)))
 (cond (a0.2.2.2.1 != b1.2.2.2.1)
 (let t4 := decide (a0.2.2.2.1 < b1.2.2.2.1)
 some t4)
 (let t4_1 := decide (a0.2.2.2.2 < b1.2.2.2.2)
 some t4_1)))
def F_spec_LessVec : Fn := ⟨[.val true cVec false, .val true cVec false], [.val false cNB true], fun a => spec_LessVec a.1 a.2⟩
theorem m_spec_LessVec : Meets Tryz.prog 292 F_spec_LessVec := mkM g_303 292 Tryz.f292 [] F_spec_LessVec Tryz.func292 (by kernel_rfl) (by kernel_rfl) (by kernel_rfl)
def fns_292 : List (FuncId × Fn) := (292, F_spec_LessVec) :: fns_303
theorem g_292 : Good Tryz.prog ⟨tis, fns_292, [], false⟩ := g_303.cons m_spec_LessVec
def spec_StepVec (v0 : Vec) (cost1 : Int) : Option (Vec × Bool) :=
 (spec_VecOk v0).bind fun t8 =>
 (cond (!t8)
 (some true)
 ((spec_l1In cost1 1 1000).bind fun t12 =>
 some (!t12))).bind fun t14 =>
 cond t14
 (some (v0, false))
 ((spec_VecOk (v0.1, w64 (v0.2.1 + cost1), w64 (v0.2.2.1 + 1), v0.2.2.2.1, v0.2.2.2.2)).bind fun t27 =>
 cond (!t27)
 (some (v0, false))
 (some ((v0.1, w64 (v0.2.1 + cost1), w64 (v0.2.2.1 + 1), v0.2.2.2.1, v0.2.2.2.2), true)))
def F_spec_StepVec : Fn := ⟨[.val true cVec false, .val false cNI false], [.val true cVec true, .val false cNB true], fun a => spec_StepVec a.1 a.2⟩
theorem m_spec_StepVec : Meets Tryz.prog 350 F_spec_StepVec := mkM g_292 350 Tryz.f350 [] F_spec_StepVec Tryz.func350 (by kernel_rfl) (by kernel_rfl) (by kernel_rfl)
def fns_350 : List (FuncId × Fn) := (350, F_spec_StepVec) :: fns_292
theorem g_350 : Good Tryz.prog ⟨tis, fns_350, [], false⟩ := g_292.cons m_spec_StepVec
def spec_BestVec_l0 (p0 : Int) (i1 : List Pt) (t8 : Int) (t9 : Int) (b0 : Int) (b1 : Int) (b2 : Int) (b3 : Int) (b4 : Int) (b0_1 : Int) (b1_1 : Int) (b2_1 : Int) (b3_1 : Int) (b4_1 : Int) : Option ((Int × Int × Int × Int × Int × Int × Int × Int × Int × Int × Int × Int) ⊕ (Int × Int × Int × Int × Int × Int × Int × Int × Int × Int × Int)) :=
 cond (decide (t9 < (i1.length : Int)))
 ((at? i1 t9).bind fun x24 =>
 (cond (!x24.1)
 (some true)
 ((at? i1 t9).bind fun x31 =>
 some (!x31.2.2.1))).bind fun t35 =>
 cond t35
 (some (.inl (t8, w64 (t9 + 1), b0, b1, b2, b3, b4, b0_1, b1_1, b2_1, b3_1, b4_1)))
 ((at? i1 t9).bind fun x39 =>
 (at? i1 t9).bind fun x44 =>
 (spec_StepVec x39.2.2.2 x44.2.1).bind fun t47 =>
 (cond t47.2 (some (decide (t47.1.1 < p0))) (some false)).bind fun t56 =>
 (cond t56
 ((cond (decide (t8 < 0))
 (some true)
 ((spec_LessVec t47.1 (b0_1, b1_1, b2_1, b3_1, b4_1)).bind fun t63 =>
 some t63)).bind fun t64 =>
 some t64)
 (some false)).bind fun t65 =>
 cond t65
 (some (.inl (t9, w64 (t9 + 1), t47.1.1, t47.1.2.1, t47.1.2.2.1, p0, 0, t47.1.1, t47.1.2.1, t47.1.2.2.1, t47.1.2.2.2.1, t47.1.2.2.2.2)))
 (some (.inl (t8, w64 (t9 + 1), b0, b1, b2, b3, b4, b0_1, b1_1, b2_1, b3_1, b4_1)))))
 (some (.inr (t8, b0, b1, b2, b3, b4, b0_1, b1_1, b2_1, b3_1, b4_1)))
def spec_BestVec (p0 : Int) (i1 : List Pt) : Option (Vec × Int) :=
 (loop (fun z => spec_BestVec_l0 p0 i1 z.1 z.2.1 z.2.2.1 z.2.2.2.1 z.2.2.2.2.1 z.2.2.2.2.2.1 z.2.2.2.2.2.2.1 z.2.2.2.2.2.2.2.1 z.2.2.2.2.2.2.2.2.1 z.2.2.2.2.2.2.2.2.2.1 z.2.2.2.2.2.2.2.2.2.2.1 z.2.2.2.2.2.2.2.2.2.2.2) ((-1), 0, p0, 0, 0, p0, 0, 0, 0, 0, 0, 0)).bind fun d =>
 some ((d.2.1, d.2.2.1, d.2.2.2.1, d.2.2.2.2.1, d.2.2.2.2.2.1), d.1)
def F_spec_BestVec : Fn := ⟨[.val false cNI false, .val false (.one (.sl cPt)) false], [.val true cVec true, .val false cNI true], fun a => spec_BestVec a.1 a.2⟩
def a_spec_BestVec : List (Nat × LoopAnn) := [(0, ⟨⟨(8, false, [dI]) :: (9, false, [dI]) :: us 29 6 (us 52 4 (us 58 7 [])), [(266240, .box [dI, dI, dI, dI, dI]), (526336, .box [dI, dI, dI, dI, dI])]⟩,
 ⟨[(8, false, [dI])], [(266240, .box [dI, dI, dI, dI, dI]), (526336, .box [dI, dI, dI, dI, dI])]⟩, none⟩)]
theorem m_spec_BestVec : Meets Tryz.prog 288 F_spec_BestVec := mkM g_350 288 Tryz.f288 a_spec_BestVec F_spec_BestVec Tryz.func288 (by kernel_rfl) (by kernel_rfl) (by kernel_rfl)
def fns_288 : List (FuncId × Fn) := (288, F_spec_BestVec) :: fns_350
theorem g_288 : Good Tryz.prog ⟨tis, fns_288, [], false⟩ := g_350.cons m_spec_BestVec
def spec_SayVec (id0 : Int) (l1 : List Pt) (port2 : Int) : Option Vec :=
 (spec_BestVec id0 l1).bind fun t12 =>
 some (t12.1.1, t12.1.2.1, t12.1.2.2.1, t12.1.2.2.2.1, port2)
def F_spec_SayVec : Fn := ⟨[.val false cNI false, .val false (.one (.sl cPt)) false, .val false cNI false], [.val true cVec true], fun a => spec_SayVec a.1 a.2.1 a.2.2⟩
theorem m_spec_SayVec : Meets Tryz.prog 293 F_spec_SayVec := mkM g_288 293 Tryz.f293 [] F_spec_SayVec Tryz.func293 (by kernel_rfl) (by kernel_rfl) (by kernel_rfl)
def fns_293 : List (FuncId × Fn) := (293, F_spec_SayVec) :: fns_288
theorem g_293 : Good Tryz.prog ⟨tis, fns_293, [], false⟩ := g_288.cons m_spec_SayVec
def spec_RoleOf (id0 : Int) (l1 : List Pt) (port2 : Int) : Option Int :=
 (spec_l1In port2 0 (w64 ((l1.length : Int) - 1))).bind fun t13 =>
 (cond (!t13)
 (some true)
 ((at? l1 port2).bind fun x18 =>
 some (!x18.1))).bind fun t22 =>
 cond t22
 (some 4)
 ((spec_BestVec id0 l1).bind fun t26 =>
 cond (t26.2 == port2)
 (some 1)
 ((at? l1 port2).bind fun x36 =>
 (cond (!x36.2.2.1)
 (some true)
 ((spec_SayVec id0 l1 port2).bind fun t44 =>
 (at? l1 port2).bind fun x47 =>
 (spec_LessVec t44 x47.2.2.2).bind fun t50 =>
 some t50)).bind fun t51 =>
 cond t51 (some 2) (some 3)))
def F_spec_RoleOf : Fn := ⟨[.val false cNI false, .val false (.one (.sl cPt)) false, .val false cNI false], [.val false cNI true], fun a => spec_RoleOf a.1 a.2.1 a.2.2⟩
theorem m_spec_RoleOf : Meets Tryz.prog 180 F_spec_RoleOf := mkM g_293 180 Tryz.f180 [] F_spec_RoleOf Tryz.func180 (by kernel_rfl) (by kernel_rfl) (by kernel_rfl)
def fns_180 : List (FuncId × Fn) := (180, F_spec_RoleOf) :: fns_293
theorem g_180 : Good Tryz.prog ⟨tis, fns_180, [], false⟩ := g_293.cons m_spec_RoleOf
def spec_l17Port (b0 : Bridge) (c1 : Int) (p2 : Int) : Option Int :=
 cond (c1 == 1)
 ((at? b0.2.2.1 p2).bind fun x13 =>
 cond x13.1 (some 1) (some 0))
 (cond (c1 == 2)
 ((at? b0.2.2.1 p2).bind fun x21 =>
 some x21.2.1)
 (cond (c1 == 3)
 ((spec_RoleOf b0.1 b0.2.2.1 p2).bind fun t31 =>
 some t31)
 ((at? b0.2.2.2.2.2.1 p2).bind fun x36 =>
 some x36)))
def F_spec_l17Port : Fn := ⟨[.val true cBridge false, .val false cNI false, .val false cNI false], [.val false cNI true], fun a => spec_l17Port a.1 a.2.1 a.2.2⟩
theorem m_spec_l17Port : Meets Tryz.prog 304 F_spec_l17Port := mkM g_180 304 Tryz.f304 [] F_spec_l17Port Tryz.func304 (by kernel_rfl) (by kernel_rfl) (by kernel_rfl)
def fns_304 : List (FuncId × Fn) := (304, F_spec_l17Port) :: fns_180
theorem g_304 : Good Tryz.prog ⟨tis, fns_304, [], false⟩ := g_180.cons m_spec_l17Port
def spec_l17Row (r0 : Vrow) (c1 : Int) : Option Int :=
 cond (c1 == 1) (some 1) (cond (c1 == 2) (some r0.2.1) (some r0.2.2))
def F_spec_l17Row : Fn := ⟨[.val true cVrow false, .val false cNI false], [.val false cNI true], fun a => spec_l17Row a.1 a.2⟩
theorem m_spec_l17Row : Meets Tryz.prog 305 F_spec_l17Row := mkM g_304 305 Tryz.f305 [] F_spec_l17Row Tryz.func305 (by kernel_rfl) (by kernel_rfl) (by kernel_rfl)
def fns_305 : List (FuncId × Fn) := (305, F_spec_l17Row) :: fns_304
theorem g_305 : Good Tryz.prog ⟨tis, fns_305, [], false⟩ := g_304.cons m_spec_l17Row
def spec_MibList_l2 (p0 : Bridge) (t4 : Int) (t5 : Int) (t3_1 : List Bind) : Option ((Int × List Bind) ⊕ (List Bind)) :=
 cond (decide (t5 < (p0.2.2.1.length : Int)))
 ((spec_l17Port p0 t4 t5).bind fun t59 =>
 (spec_l17Add t3_1 [2, t4, w64 (t5 + 1)] t59).bind fun t60 =>
 some (.inl (w64 (t5 + 1), t60)))
 (some (.inr t3_1))
def spec_MibList_l0 (p0 : Bridge) (t4 : Int) (t3 : List Bind) : Option ((Int × List Bind) ⊕ (List Bind)) :=
 cond (decide (t4 ≤ 4))
 ((loop (fun z => spec_MibList_l2 p0 t4 z.1 z.2) (0, t3)).bind fun d =>
 some (.inl (w64 (t4 + 1), d)))
 (some (.inr t3))
def spec_MibList_l6 (p0 : Bridge) (t6 : Int) (t7 : Int) (t3_5 : List Bind) : Option ((Int × List Bind) ⊕ (List Bind)) :=
 cond (decide (t7 < (p0.2.2.2.2.1.length : Int)))
 ((at? p0.2.2.2.2.1 t7).bind fun x79 =>
 (at? p0.2.2.2.2.1 t7).bind fun x87 =>
 (spec_l17Row x87 t6).bind fun t90 =>
 (spec_l17Add t3_5 [3, t6, x79.1] t90).bind fun t91 =>
 some (.inl (w64 (t7 + 1), t91)))
 (some (.inr t3_5))
def spec_MibList_l4 (p0 : Bridge) (t6 : Int) (t3_4 : List Bind) : Option ((Int × List Bind) ⊕ (List Bind)) :=
 cond (decide (t6 ≤ 3))
 ((loop (fun z => spec_MibList_l6 p0 t6 z.1 z.2) (0, t3_4)).bind fun d_2 =>
 some (.inl (w64 (t6 + 1), d_2)))
 (some (.inr t3_4))
def spec_MibList_l8 (p0 : Bridge) (t8 : Int) (t3_8 : List Bind) : Option ((Int × List Bind) ⊕ (List Bind)) :=
 cond (decide (t8 < (p0.2.2.2.1.length : Int)))
 ((at? p0.2.2.2.1 t8).bind fun x103 =>
 (at? p0.2.2.2.1 t8).bind fun x109 =>
 (at? p0.2.2.2.1 t8).bind fun x116 =>
 (spec_l17Add t3_8 [4, 1, x103.1, x109.2.1] (w64 (x116.2.2.1 + 1))).bind fun t120 =>
 some (.inl (w64 (t8 + 1), t120)))
 (some (.inr t3_8))
def spec_MibList (p0 : Bridge) : Option (List Bind) :=
 (spec_BridgeOk p0).bind fun t10 =>
 cond (!t10)
 (some ([] : List Bind))
 ((spec_l17Name ([1, 1] : List Int)).bind fun t14 =>
 (spec_l17Add ([(t14, 4, 0, p0.2.1, [])]) ([1, 2] : List Int) p0.2.2.2.2.2.2.1).bind fun t24 =>
 (spec_l17Add t24 ([1, 3] : List Int) p0.2.2.2.2.2.2.2.1).bind fun t29 =>
 (spec_l17Add t29 ([1, 4] : List Int) p0.2.2.2.2.2.2.2.2.1).bind fun t34 =>
 (spec_l17Add t34 ([1, 5] : List Int) p0.2.2.2.2.2.2.2.2.2.1).bind fun t39 =>
 (loop (fun z => spec_MibList_l0 p0 z.1 z.2) (1, t39)).bind fun d_1 =>
 (loop (fun z => spec_MibList_l4 p0 z.1 z.2) (1, d_1)).bind fun d_3 =>
 (loop (fun z => spec_MibList_l8 p0 z.1 z.2) (0, d_3)).bind fun d_4 =>
 some d_4)
def F_spec_MibList : Fn := ⟨[.val true cBridge false], [.val false (.one (.sl cBind)) true], fun a => spec_MibList a⟩
def a_spec_MibList : List (Nat × LoopAnn) := [(0, ⟨⟨[(3, false, [.own 1000000000]), (4, false, [dI])], [(1000000000, .root cBind true)]⟩,
 ⟨[(3, false, [.own 1000000300])], [(1000000300, .root cBind true)]⟩, none⟩),
 (2, ⟨⟨[(3, false, [.own 1000002000]), (5, false, [dI])], [(1000002000, .root cBind true)]⟩,
 ⟨[(3, false, [.own 1000002300])], [(1000002300, .root cBind true)]⟩, none⟩),
 (4, ⟨⟨[(3, false, [.own 1000004000]), (6, false, [dI])], [(1000004000, .root cBind true)]⟩,
 ⟨[(3, false, [.own 1000004300])], [(1000004300, .root cBind true)]⟩, none⟩),
 (6, ⟨⟨[(3, false, [.own 1000006000]), (7, false, [dI])], [(1000006000, .root cBind true)]⟩,
 ⟨[(3, false, [.own 1000006300])], [(1000006300, .root cBind true)]⟩, none⟩),
 (8, ⟨⟨[(3, false, [.own 1000008000]), (8, false, [dI])], [(1000008000, .root cBind true)]⟩,
 ⟨[(3, false, [.own 1000008300])], [(1000008300, .root cBind true)]⟩, none⟩)]
theorem m_spec_MibList : Meets Tryz.prog 189 F_spec_MibList := mkM g_305 189 Tryz.f189 a_spec_MibList F_spec_MibList Tryz.func189 (by kernel_rfl) (by kernel_rfl) (by kernel_rfl)
def fns_189 : List (FuncId × Fn) := (189, F_spec_MibList) :: fns_305
theorem g_189 : Good Tryz.prog ⟨tis, fns_189, [], false⟩ := g_305.cons m_spec_MibList
def spec_l2Draw_l0 (i4 : Int) (b0 : List Int) (b1 : Int) (b2 : Int) (out3 : List Int) : Option ((Int × List Int × Int × Int × List Int) ⊕ (List Int × Int × Int × List Int)) :=
 cond (decide (i4 > 0))
 ((spec_l1Int (b0, b1, b2) ([0, 1, 2, 3, 127, 128, 16384, 100000] : List Int)).bind fun t16 =>
 (app out3 [t16.2]).bind fun zs18 =>
 some (.inl (w64 (i4 - 1), t16.1.1, t16.1.2.1, t16.1.2.2, zs18)))
 (some (.inr (b0, b1, b2, out3)))
def spec_l2Draw (c0 : L1Cur) : Option (L1Cur × List Int) :=
 (spec_l1Below c0 6).bind fun t7 =>
 (loop (fun z => spec_l2Draw_l0 z.1 z.2.1 z.2.2.1 z.2.2.2.1 z.2.2.2.2) (w64 (1 + t7.2), t7.1.1, t7.1.2.1, t7.1.2.2, ([] : List Int))).bind fun d =>
 some ((d.1, d.2.1, d.2.2.1), d.2.2.2)
def F_spec_l2Draw : Fn := ⟨[.ptr cL1Cur false], [.val false cNN true], fun a => spec_l2Draw a⟩
def a_spec_l2Draw : List (Nat × LoopAnn) := [(0, ⟨⟨[(3, false, [.own 1000000000]), (4, false, [dI])], [(1, .box [.dat (.sl (.one (.int .u8))), dI, dI]), (1000000000, .root cNI true)]⟩,
 ⟨[(3, false, [.own 1000000300])], [(1, .box [.dat (.sl (.one (.int .u8))), dI, dI]), (1000000300, .root cNI true)]⟩, none⟩)]
theorem m_spec_l2Draw : Meets Tryz.prog 191 F_spec_l2Draw := mkM g_189 191 Tryz.f191 a_spec_l2Draw F_spec_l2Draw Tryz.func191 (by kernel_rfl) (by kernel_rfl) (by kernel_rfl)
def fns_191 : List (FuncId × Fn) := (191, F_spec_l2Draw) :: fns_189
theorem g_191 : Good Tryz.prog ⟨tis, fns_191, [], false⟩ := g_189.cons m_spec_l2Draw
def spec_l17Oid (c0 : L1Cur) (b1 : Bridge) : Option (L1Cur × List Int) :=
 (spec_MibList b1).bind fun t7 =>
 cond (decide ((t7.length : Int) > 0))
 ((spec_l1Once c0 4).bind fun t13 =>
 cond (!t13.2)
 ((spec_l1Below t13.1 (t7.length : Int)).bind fun t21 =>
 (ix t7.length t21.2).bind fun j22 =>
 (t7[j22]?).bind fun x24 =>
 (app ([] : List Int) x24.1).bind fun zs25 =>
 some (t21.1, zs25))
 ((spec_l1Below t13.1 8).bind fun t27 =>
 cond (t27.2 == 0)
 (some (t27.1, ([0] : List Int)))
 (cond (t27.2 == 1)
 (some (t27.1, ([1, 3, 1] : List Int)))
 (cond (t27.2 == 2)
 ((spec_l17Name ([2, 2, 9] : List Int)).bind fun t37 =>
 some (t27.1, t37))
 (cond (t27.2 == 3)
 ((spec_l1Below t27.1 9).bind fun t41 =>
 (spec_l17Name [3, 1, w64 (1 + t41.2)]).bind fun t44 =>
 some (t41.1, t44))
 (cond (t27.2 == 4)
 ((spec_l17Name ([2, 2] : List Int)).bind fun t48 =>
 some (t27.1, t48))
 (cond (t27.2 == 5)
 ((spec_l17Name ([9] : List Int)).bind fun t52 =>
 some (t27.1, t52))
 (cond (t27.2 == 6)
 ((spec_l17Name ([4, 1, 2, 11] : List Int)).bind fun t56 =>
 some (t27.1, t56))
 ((spec_l2Draw t27.1).bind fun t58 =>
 some t58)))))))))
 ((spec_l1Below c0 8).bind fun t27_1 =>
 cond (t27_1.2 == 0)
 (some (t27_1.1, ([0] : List Int)))
 (cond (t27_1.2 == 1)
 (some (t27_1.1, ([1, 3, 1] : List Int)))
 (cond (t27_1.2 == 2)
 ((spec_l17Name ([2, 2, 9] : List Int)).bind fun t37_1 =>
 some (t27_1.1, t37_1))
 (cond (t27_1.2 == 3)
 ((spec_l1Below t27_1.1 9).bind fun t41_1 =>
 (spec_l17Name [3, 1, w64 (1 + t41_1.2)]).bind fun t44_1 =>
 some (t41_1.1, t44_1))
 (cond (t27_1.2 == 4)
 ((spec_l17Name ([2, 2] : List Int)).bind fun t48_1 =>
 some (t27_1.1, t48_1))
 (cond (t27_1.2 == 5)
 ((spec_l17Name ([9] : List Int)).bind fun t52_1 =>
 some (t27_1.1, t52_1))
 (cond (t27_1.2 == 6)
 ((spec_l17Name ([4, 1, 2, 11] : List Int)).bind fun t56_1 =>
 some (t27_1.1, t56_1))
 ((spec_l2Draw t27_1.1).bind fun t58_1 =>
 some t58_1))))))))
def F_spec_l17Oid : Fn := ⟨[.ptr cL1Cur false, .val true cBridge false], [.val false cNN true], fun a => spec_l17Oid a.1 a.2⟩
theorem m_spec_l17Oid : Meets Tryz.prog 79 F_spec_l17Oid := mkM g_191 79 Tryz.f79 [] F_spec_l17Oid Tryz.func79 (by kernel_rfl) (by kernel_rfl) (by kernel_rfl)
def fns_79 : List (FuncId × Fn) := (79, F_spec_l17Oid) :: fns_191
theorem g_79 : Good Tryz.prog ⟨tis, fns_79, [], false⟩ := g_191.cons m_spec_l17Oid
def spec_l1Clip (n0 : Int) : Option Int :=
 cond (decide (n0 > 2147483647))
 (some 2147483647)
 (cond (decide (n0 < (-2147483648))) (some (-2147483648)) (some n0))
def F_spec_l1Clip : Fn := ⟨[.val false cNI false], [.val false cNI true], fun a => spec_l1Clip a⟩
theorem m_spec_l1Clip : Meets Tryz.prog 316 F_spec_l1Clip := mkM g_79 316 Tryz.f316 [] F_spec_l1Clip Tryz.func316 (by kernel_rfl) (by kernel_rfl) (by kernel_rfl)
def fns_316 : List (FuncId × Fn) := (316, F_spec_l1Clip) :: fns_79
theorem g_316 : Good Tryz.prog ⟨tis, fns_316, [], false⟩ := g_79.cons m_spec_l1Clip
def spec_l1Num (c0 : L1Cur) : Option (L1Cur × Int) :=
 (spec_l1Below c0 1000).bind fun t5 =>
 (spec_l1Int t5.1 [0, 1, (-1), 127, 128, (-128), (-129), 255, 256, 32767, 32768, (-32769), 8388608, 2147483647, (-2147483648), 2147483648, (-2147483649), 9223372036854775807, (-9223372036854775808), t5.2]).bind fun t7 =>
 some t7
def F_spec_l1Num : Fn := ⟨[.ptr cL1Cur false], [.val false cNI true], fun a => spec_l1Num a⟩
theorem m_spec_l1Num : Meets Tryz.prog 317 F_spec_l1Num := mkM g_316 317 Tryz.f317 [] F_spec_l1Num Tryz.func317 (by kernel_rfl) (by kernel_rfl) (by kernel_rfl)
def fns_317 : List (FuncId × Fn) := (317, F_spec_l1Num) :: fns_316
theorem g_317 : Good Tryz.prog ⟨tis, fns_317, [], false⟩ := g_316.cons m_spec_l1Num
def spec_l3Draw (c0 : L1Cur) : Option (L1Cur × Val) :=
 (spec_l1Below c0 6).bind fun t4 =>
 cond (t4.2 == 0)
 (some (t4.1, (5, 0, [], [])))
 (cond (t4.2 == 1)
 (cond (t4.2 == 1)
 ((spec_l1Num t4.1).bind fun t12 =>
 (spec_l1Clip t12.2).bind fun t13 =>
 (spec_l3Int t13).bind fun t14 =>
 some (t12.1, t14))
 (cond (t4.2 == 3)
 ((spec_l1Str t4.1 ([[], [97], [121, 97, 114, 100], [0]] : List (List UInt8))).bind fun t19 =>
 some (t19.1, (4, 0, t19.2, [])))
 (cond (t4.2 == 4)
 ((spec_l2Draw t4.1).bind fun t24 =>
 some (t24.1, (6, 0, [], t24.2)))
 ((spec_l1Int t4.1 ([128, 130] : List Int)).bind fun t28 =>
 some (t28.1, (t28.2, 0, [], []))))))
 (cond (t4.2 == 2)
 ((spec_l1Num t4.1).bind fun t12_1 =>
 (spec_l1Clip t12_1.2).bind fun t13_1 =>
 (spec_l3Int t13_1).bind fun t14_1 =>
 some (t12_1.1, t14_1))
 (cond (t4.2 == 3)
 ((spec_l1Str t4.1 ([[], [97], [121, 97, 114, 100], [0]] : List (List UInt8))).bind fun t19_1 =>
 some (t19_1.1, (4, 0, t19_1.2, [])))
 (cond (t4.2 == 4)
 ((spec_l2Draw t4.1).bind fun t24_1 =>
 some (t24_1.1, (6, 0, [], t24_1.2)))
 ((spec_l1Int t4.1 ([128, 130] : List Int)).bind fun t28_1 =>
 some (t28_1.1, (t28_1.2, 0, [], [])))))))
def F_spec_l3Draw : Fn := ⟨[.ptr cL1Cur false], [.val true cVal true], fun a => spec_l3Draw a⟩
theorem m_spec_l3Draw : Meets Tryz.prog 230 F_spec_l3Draw := mkM g_317 230 Tryz.f230 [] F_spec_l3Draw Tryz.func230 (by kernel_rfl) (by kernel_rfl) (by kernel_rfl)
def fns_230 : List (FuncId × Fn) := (230, F_spec_l3Draw) :: fns_317
theorem g_230 : Good Tryz.prog ⟨tis, fns_230, [], false⟩ := g_317.cons m_spec_l3Draw
def spec_l18Bind (p0 : L1Cur) (i1 : Bridge) : Option (L1Cur × Bind) :=
 (spec_l1Below p0 (w64 ((i1.2.2.1.length : Int) + 1))).bind fun t12 =>
 (shl .i64 1 (IntKind.u64.wrap ((i1.2.2.1.length : Int)))).bind fun t18 =>
 (spec_l1Below t12.1 10).bind fun t21 =>
 cond (t21.2 == 0)
 ((spec_l17Name ([1, 1] : List Int)).bind fun t25 =>
 (spec_l1Str t21.1 ([[110, 101, 119], [], [101, 108, 101, 118, 101, 110, 45, 98, 121, 116, 101]] : List (List UInt8))).bind fun t28 =>
 some (t28.1, (t25, 4, 0, t28.2, [])))
 (cond (t21.2 == 1)
 (cond (t21.2 == 1)
 ((spec_l17Name [2, 2, w64 (1 + t12.2)]).bind fun t36 =>
 (spec_l1Int t21.1 ([1, 5, 1000, 0, 1001] : List Int)).bind fun t39 =>
 (spec_l3Int t39.2).bind fun t40 =>
 some (t39.1, (t36, t40.1, t40.2.1, t40.2.2.1, t40.2.2.2)))
 (cond (t21.2 == 3)
 ((spec_l17Name [2, 4, w64 (1 + t12.2)]).bind fun t46 =>
 (spec_l1Below t21.1 4).bind fun t48 =>
 (spec_l3Int (w64 (1 + t48.2))).bind fun t50 =>
 some (t48.1, (t46, t50.1, t50.2.1, t50.2.2.1, t50.2.2.2)))
 (cond (t21.2 == 4)
 (cond (t21.2 == 4)
 ((spec_l1Below t21.1 4).bind fun t56 =>
 (spec_l17Name [3, 1, w64 (1 + t56.2)]).bind fun t59 =>
 (spec_l1Int t56.1 ([4, 4, 6, 1] : List Int)).bind fun t62 =>
 (spec_l3Int t62.2).bind fun t63 =>
 some (t62.1, (t59, t63.1, t63.2.1, t63.2.2.1, t63.2.2.2)))
 (cond (t21.2 == 6)
 (cond (t21.2 == 6)
 ((spec_l1Below t21.1 4).bind fun t69 =>
 (spec_l17Name [3, 2, w64 (1 + t69.2)]).bind fun t72 =>
 (spec_l1Below t69.1 (w64 ((w64 (t18 - 1)) + 2))).bind fun t76 =>
 (spec_l3Int t76.2).bind fun t77 =>
 some (t76.1, (t72, t77.1, t77.2.1, t77.2.2.1, t77.2.2.2)))
 (cond (t21.2 == 8)
 ((spec_l1Below t21.1 4).bind fun t82 =>
 (spec_l17Name [3, 3, w64 (1 + t82.2)]).bind fun t85 =>
 (spec_l1Below t82.1 (w64 ((w64 (t18 - 1)) + 1))).bind fun t89 =>
 (spec_l3Int t89.2).bind fun t90 =>
 some (t89.1, (t85, t90.1, t90.2.1, t90.2.2.1, t90.2.2.2)))
 ((spec_l17Oid t21.1 i1).bind fun t94 =>
 (spec_l3Draw t94.1).bind fun t96 =>
 some (t96.1, (t94.2, t96.2.1, t96.2.2.1, t96.2.2.2.1, t96.2.2.2.2)))))
 (cond (t21.2 == 7)
 ((spec_l1Below t21.1 4).bind fun t69_1 =>
 (spec_l17Name [3, 2, w64 (1 + t69_1.2)]).bind fun t72_1 =>
 (spec_l1Below t69_1.1 (w64 ((w64 (t18 - 1)) + 2))).bind fun t76_1 =>
 (spec_l3Int t76_1.2).bind fun t77_1 =>
 some (t76_1.1, (t72_1, t77_1.1, t77_1.2.1, t77_1.2.2.1, t77_1.2.2.2)))
 (cond (t21.2 == 8)
 ((spec_l1Below t21.1 4).bind fun t82_1 =>
 (spec_l17Name [3, 3, w64 (1 + t82_1.2)]).bind fun t85_1 =>
 (spec_l1Below t82_1.1 (w64 ((w64 (t18 - 1)) + 1))).bind fun t89_1 =>
 (spec_l3Int t89_1.2).bind fun t90_1 =>
 some (t89_1.1, (t85_1, t90_1.1, t90_1.2.1, t90_1.2.2.1, t90_1.2.2.2)))
 ((spec_l17Oid t21.1 i1).bind fun t94_1 =>
 (spec_l3Draw t94_1.1).bind fun t96_1 =>
 some (t96_1.1, (t94_1.2, t96_1.2.1, t96_1.2.2.1, t96_1.2.2.2.1, t96_1.2.2.2.2)))))))
 (cond (t21.2 == 5)
 ((spec_l1Below t21.1 4).bind fun t56_1 =>
 (spec_l17Name [3, 1, w64 (1 + t56_1.2)]).bind fun t59_1 =>
 (spec_l1Int t56_1.1 ([4, 4, 6, 1] : List Int)).bind fun t62_1 =>
 (spec_l3Int t62_1.2).bind fun t63_1 =>
 some (t62_1.1, (t59_1, t63_1.1, t63_1.2.1, t63_1.2.2.1, t63_1.2.2.2)))
 (cond (t21.2 == 6)
 (cond (t21.2 == 6)
 ((spec_l1Below t21.1 4).bind fun t69_2 =>
 (spec_l17Name [3, 2, w64 (1 + t69_2.2)]).bind fun t72_2 =>
 (spec_l1Below t69_2.1 (w64 ((w64 (t18 - 1)) + 2))).bind fun t76_2 =>
 (spec_l3Int t76_2.2).bind fun t77_2 =>
 some (t76_2.1, (t72_2, t77_2.1, t77_2.2.1, t77_2.2.2.1, t77_2.2.2.2)))
 (cond (t21.2 == 8)
 ((spec_l1Below t21.1 4).bind fun t82_2 =>
 (spec_l17Name [3, 3, w64 (1 + t82_2.2)]).bind fun t85_2 =>
 (spec_l1Below t82_2.1 (w64 ((w64 (t18 - 1)) + 1))).bind fun t89_2 =>
 (spec_l3Int t89_2.2).bind fun t90_2 =>
 some (t89_2.1, (t85_2, t90_2.1, t90_2.2.1, t90_2.2.2.1, t90_2.2.2.2)))
 ((spec_l17Oid t21.1 i1).bind fun t94_2 =>
 (spec_l3Draw t94_2.1).bind fun t96_2 =>
 some (t96_2.1, (t94_2.2, t96_2.2.1, t96_2.2.2.1, t96_2.2.2.2.1, t96_2.2.2.2.2)))))
 (cond (t21.2 == 7)
 ((spec_l1Below t21.1 4).bind fun t69_3 =>
 (spec_l17Name [3, 2, w64 (1 + t69_3.2)]).bind fun t72_3 =>
 (spec_l1Below t69_3.1 (w64 ((w64 (t18 - 1)) + 2))).bind fun t76_3 =>
 (spec_l3Int t76_3.2).bind fun t77_3 =>
 some (t76_3.1, (t72_3, t77_3.1, t77_3.2.1, t77_3.2.2.1, t77_3.2.2.2)))
 (cond (t21.2 == 8)
 ((spec_l1Below t21.1 4).bind fun t82_3 =>
 (spec_l17Name [3, 3, w64 (1 + t82_3.2)]).bind fun t85_3 =>
 (spec_l1Below t82_3.1 (w64 ((w64 (t18 - 1)) + 1))).bind fun t89_3 =>
 (spec_l3Int t89_3.2).bind fun t90_3 =>
 some (t89_3.1, (t85_3, t90_3.1, t90_3.2.1, t90_3.2.2.1, t90_3.2.2.2)))
 ((spec_l17Oid t21.1 i1).bind fun t94_3 =>
 (spec_l3Draw t94_3.1).bind fun t96_3 =>
 some (t96_3.1, (t94_3.2, t96_3.2.1, t96_3.2.2.1, t96_3.2.2.2.1, t96_3.2.2.2.2))))))))))
 (cond (t21.2 == 2)
 ((spec_l17Name [2, 2, w64 (1 + t12.2)]).bind fun t36_1 =>
 (spec_l1Int t21.1 ([1, 5, 1000, 0, 1001] : List Int)).bind fun t39_1 =>
 (spec_l3Int t39_1.2).bind fun t40_1 =>
 some (t39_1.1, (t36_1, t40_1.1, t40_1.2.1, t40_1.2.2.1, t40_1.2.2.2)))
 (cond (t21.2 == 3)
 ((spec_l17Name [2, 4, w64 (1 + t12.2)]).bind fun t46_1 =>
 (spec_l1Below t21.1 4).bind fun t48_1 =>
 (spec_l3Int (w64 (1 + t48_1.2))).bind fun t50_1 =>
 some (t48_1.1, (t46_1, t50_1.1, t50_1.2.1, t50_1.2.2.1, t50_1.2.2.2)))
 (cond (t21.2 == 4)
 (cond (t21.2 == 4)
 ((spec_l1Below t21.1 4).bind fun t56_2 =>
 (spec_l17Name [3, 1, w64 (1 + t56_2.2)]).bind fun t59_2 =>
 (spec_l1Int t56_2.1 ([4, 4, 6, 1] : List Int)).bind fun t62_2 =>
 (spec_l3Int t62_2.2).bind fun t63_2 =>
 some (t62_2.1, (t59_2, t63_2.1, t63_2.2.1, t63_2.2.2.1, t63_2.2.2.2)))
 (cond (t21.2 == 6)
 (cond (t21.2 == 6)
 ((spec_l1Below t21.1 4).bind fun t69_4 =>
 (spec_l17Name [3, 2, w64 (1 + t69_4.2)]).bind fun t72_4 =>
 (spec_l1Below t69_4.1 (w64 ((w64 (t18 - 1)) + 2))).bind fun t76_4 =>
 (spec_l3Int t76_4.2).bind fun t77_4 =>
 some (t76_4.1, (t72_4, t77_4.1, t77_4.2.1, t77_4.2.2.1, t77_4.2.2.2)))
 (cond (t21.2 == 8)
 ((spec_l1Below t21.1 4).bind fun t82_4 =>
 (spec_l17Name [3, 3, w64 (1 + t82_4.2)]).bind fun t85_4 =>
 (spec_l1Below t82_4.1 (w64 ((w64 (t18 - 1)) + 1))).bind fun t89_4 =>
 (spec_l3Int t89_4.2).bind fun t90_4 =>
 some (t89_4.1, (t85_4, t90_4.1, t90_4.2.1, t90_4.2.2.1, t90_4.2.2.2)))
 ((spec_l17Oid t21.1 i1).bind fun t94_4 =>
 (spec_l3Draw t94_4.1).bind fun t96_4 =>
 some (t96_4.1, (t94_4.2, t96_4.2.1, t96_4.2.2.1, t96_4.2.2.2.1, t96_4.2.2.2.2)))))
 (cond (t21.2 == 7)
 ((spec_l1Below t21.1 4).bind fun t69_5 =>
 (spec_l17Name [3, 2, w64 (1 + t69_5.2)]).bind fun t72_5 =>
 (spec_l1Below t69_5.1 (w64 ((w64 (t18 - 1)) + 2))).bind fun t76_5 =>
 (spec_l3Int t76_5.2).bind fun t77_5 =>
 some (t76_5.1, (t72_5, t77_5.1, t77_5.2.1, t77_5.2.2.1, t77_5.2.2.2)))
 (cond (t21.2 == 8)
 ((spec_l1Below t21.1 4).bind fun t82_5 =>
 (spec_l17Name [3, 3, w64 (1 + t82_5.2)]).bind fun t85_5 =>
 (spec_l1Below t82_5.1 (w64 ((w64 (t18 - 1)) + 1))).bind fun t89_5 =>
 (spec_l3Int t89_5.2).bind fun t90_5 =>
 some (t89_5.1, (t85_5, t90_5.1, t90_5.2.1, t90_5.2.2.1, t90_5.2.2.2)))
 ((spec_l17Oid t21.1 i1).bind fun t94_5 =>
 (spec_l3Draw t94_5.1).bind fun t96_5 =>
 some (t96_5.1, (t94_5.2, t96_5.2.1, t96_5.2.2.1, t96_5.2.2.2.1, t96_5.2.2.2.2)))))))
 (cond (t21.2 == 5)
 ((spec_l1Below t21.1 4).bind fun t56_3 =>
 (spec_l17Name [3, 1, w64 (1 + t56_3.2)]).bind fun t59_3 =>
 (spec_l1Int t56_3.1 ([4, 4, 6, 1] : List Int)).bind fun t62_3 =>
 (spec_l3Int t62_3.2).bind fun t63_3 =>
 some (t62_3.1, (t59_3, t63_3.1, t63_3.2.1, t63_3.2.2.1, t63_3.2.2.2)))
 (cond (t21.2 == 6)
 (cond (t21.2 == 6)
 ((spec_l1Below t21.1 4).bind fun t69_6 =>
 (spec_l17Name [3, 2, w64 (1 + t69_6.2)]).bind fun t72_6 =>
 (spec_l1Below t69_6.1 (w64 ((w64 (t18 - 1)) + 2))).bind fun t76_6 =>
 (spec_l3Int t76_6.2).bind fun t77_6 =>
 some (t76_6.1, (t72_6, t77_6.1, t77_6.2.1, t77_6.2.2.1, t77_6.2.2.2)))
 (cond (t21.2 == 8)
 ((spec_l1Below t21.1 4).bind fun t82_6 =>
 (spec_l17Name [3, 3, w64 (1 + t82_6.2)]).bind fun t85_6 =>
 (spec_l1Below t82_6.1 (w64 ((w64 (t18 - 1)) + 1))).bind fun t89_6 =>
 (spec_l3Int t89_6.2).bind fun t90_6 =>
 some (t89_6.1, (t85_6, t90_6.1, t90_6.2.1, t90_6.2.2.1, t90_6.2.2.2)))
 ((spec_l17Oid t21.1 i1).bind fun t94_6 =>
 (spec_l3Draw t94_6.1).bind fun t96_6 =>
 some (t96_6.1, (t94_6.2, t96_6.2.1, t96_6.2.2.1, t96_6.2.2.2.1, t96_6.2.2.2.2)))))
 (cond (t21.2 == 7)
 ((spec_l1Below t21.1 4).bind fun t69_7 =>
 (spec_l17Name [3, 2, w64 (1 + t69_7.2)]).bind fun t72_7 =>
 (spec_l1Below t69_7.1 (w64 ((w64 (t18 - 1)) + 2))).bind fun t76_7 =>
 (spec_l3Int t76_7.2).bind fun t77_7 =>
 some (t76_7.1, (t72_7, t77_7.1, t77_7.2.1, t77_7.2.2.1, t77_7.2.2.2)))
 (cond (t21.2 == 8)
 ((spec_l1Below t21.1 4).bind fun t82_7 =>
 (spec_l17Name [3, 3, w64 (1 + t82_7.2)]).bind fun t85_7 =>
 (spec_l1Below t82_7.1 (w64 ((w64 (t18 - 1)) + 1))).bind fun t89_7 =>
 (spec_l3Int t89_7.2).bind fun t90_7 =>
 some (t89_7.1, (t85_7, t90_7.1, t90_7.2.1, t90_7.2.2.1, t90_7.2.2.2)))
 ((spec_l17Oid t21.1 i1).bind fun t94_7 =>
 (spec_l3Draw t94_7.1).bind fun t96_7 =>
 some (t96_7.1, (t94_7.2, t96_7.2.1, t96_7.2.2.1, t96_7.2.2.2.1, t96_7.2.2.2.2)))))))))))
def F_spec_l18Bind : Fn := ⟨[.ptr cL1Cur false, .val true cBridge false], [.val true cBind true], fun a => spec_l18Bind a.1 a.2⟩
theorem m_spec_l18Bind : Meets Tryz.prog 105 F_spec_l18Bind := mkM g_230 105 Tryz.f105 [] F_spec_l18Bind Tryz.func105 (by kernel_rfl) (by kernel_rfl) (by kernel_rfl)
def fns_105 : List (FuncId × Fn) := (105, F_spec_l18Bind) :: fns_230
theorem g_105 : Good Tryz.prog ⟨tis, fns_105, [], false⟩ := g_230.cons m_spec_l18Bind
def spec_l18Binds_l0 (b1 : Bridge) (i6 : Int) (b0 : List Int) (b1_1 : Int) (b2 : Int) (out5 : List Bind) : Option ((Int × List Int × Int × Int × List Bind) ⊕ (List Int × Int × Int × List Bind)) :=
 cond (decide (i6 > 0))
 ((spec_l18Bind (b0, b1_1, b2) b1).bind fun t17 =>
 (app out5 [t17.2]).bind fun zs19 =>
 some (.inl (w64 (i6 - 1), t17.1.1, t17.1.2.1, t17.1.2.2, zs19)))
 (some (.inr (b0, b1_1, b2, out5)))
def spec_l18Binds (c0 : L1Cur) (b1 : Bridge) : Option (L1Cur × List Bind) :=
 (spec_l1Below c0 4).bind fun t9 =>
 (loop (fun z => spec_l18Binds_l0 b1 z.1 z.2.1 z.2.2.1 z.2.2.2.1 z.2.2.2.2) (t9.2, t9.1.1, t9.1.2.1, t9.1.2.2, ([] : List Bind))).bind fun d =>
 some ((d.1, d.2.1, d.2.2.1), d.2.2.2)
def F_spec_l18Binds : Fn := ⟨[.ptr cL1Cur false, .val true cBridge false], [.val false (.one (.sl cBind)) true], fun a => spec_l18Binds a.1 a.2⟩
def a_spec_l18Binds : List (Nat × LoopAnn) := [(0, ⟨⟨[(5, false, [.own 1000000000]), (6, false, [dI])], [(1, .box [.dat (.sl (.one (.int .u8))), dI, dI]), (1000000000, .root cBind true)]⟩,
 ⟨[(5, false, [.own 1000000300])], [(1, .box [.dat (.sl (.one (.int .u8))), dI, dI]), (1000000300, .root cBind true)]⟩, none⟩)]
theorem m_spec_l18Binds : Meets Tryz.prog 106 F_spec_l18Binds := mkM g_105 106 Tryz.f106 a_spec_l18Binds F_spec_l18Binds Tryz.func106 (by kernel_rfl) (by kernel_rfl) (by kernel_rfl)
def fns_106 : List (FuncId × Fn) := (106, F_spec_l18Binds) :: fns_105
theorem g_106 : Good Tryz.prog ⟨tis, fns_106, [], false⟩ := g_105.cons m_spec_l18Binds
def spec_l19Pdu_l0 (b1 : Bridge) (i6 : Int) (b0 : List Int) (b1_1 : Int) (b2 : Int) (b0_1 : Int) (b1_2 : Int) (b2_1 : Int) (b3 : Int) (b4 : List Bind) : Option ((Int × List Int × Int × Int × Int × Int × Int × Int × List Bind) ⊕ (List Int × Int × Int × Int × Int × Int × Int × List Bind)) :=
 cond (decide (i6 > 0))
 ((spec_l17Oid (b0, b1_1, b2) b1).bind fun t31 =>
 (app b4 ([(t31.2, 5, 0, [], [])])).bind fun zs35 =>
 some (.inl (w64 (i6 - 1), t31.1.1, t31.1.2.1, t31.1.2.2, b0_1, b1_2, b2_1, b3, zs35)))
 (some (.inr (b0, b1_1, b2, b0_1, b1_2, b2_1, b3, b4)))
def spec_l19Pdu (c0 : L1Cur) (b1 : Bridge) : Option (L1Cur × Pdu) :=
 (spec_l1Int c0 ([160, 161, 163, 163, 165] : List Int)).bind fun t9 =>
 (spec_l1Below t9.1 100).bind fun t11 =>
 cond (t9.2 == 163)
 ((spec_l18Binds t11.1 b1).bind fun t18 =>
 some (t18.1, (t9.2, t11.2, 0, 0, t18.2)))
 ((spec_l1Below t11.1 4).bind fun t22 =>
 (loop (fun z => spec_l19Pdu_l0 b1 z.1 z.2.1 z.2.2.1 z.2.2.2.1 z.2.2.2.2.1 z.2.2.2.2.2.1 z.2.2.2.2.2.2.1 z.2.2.2.2.2.2.2.1 z.2.2.2.2.2.2.2.2) (t22.2, t22.1.1, t22.1.2.1, t22.1.2.2, t9.2, t11.2, 0, 0, [])).bind fun d =>
 cond (d.2.2.2.1 == 165)
 ((spec_l1Below (d.1, d.2.1, d.2.2.1) 3).bind fun t41 =>
 (spec_l1Below t41.1 5).bind fun t44 =>
 some (t44.1, (d.2.2.2.1, d.2.2.2.2.1, t41.2, t44.2, d.2.2.2.2.2.2.2)))
 (some ((d.1, d.2.1, d.2.2.1), d.2.2.2)))
def F_spec_l19Pdu : Fn := ⟨[.ptr cL1Cur false, .val true cBridge false], [.val true cPdu true], fun a => spec_l19Pdu a.1 a.2⟩
def a_spec_l19Pdu : List (Nat × LoopAnn) := [(0, ⟨⟨[(6, false, [dI])], [(1, .box [.dat (.sl (.one (.int .u8))), dI, dI]), (269312, .box [dI, dI, dI, dI, .own 1000000000]), (1000000000, .root cBind true)]⟩,
 ⟨[], [(1, .box [.dat (.sl (.one (.int .u8))), dI, dI]), (269312, .box [dI, dI, dI, dI, .own 1000000300]), (1000000300, .root cBind true)]⟩, none⟩)]
theorem m_spec_l19Pdu : Meets Tryz.prog 89 F_spec_l19Pdu := mkM g_106 89 Tryz.f89 a_spec_l19Pdu F_spec_l19Pdu Tryz.func89 (by kernel_rfl) (by kernel_rfl) (by kernel_rfl)
def fns_89 : List (FuncId × Fn) := (89, F_spec_l19Pdu) :: fns_106
theorem g_89 : Good Tryz.prog ⟨tis, fns_89, [], false⟩ := g_106.cons m_spec_l19Pdu
def spec_DrawAsked (code0 : List Int) : Option (Bridge × Pdu) :=
 (spec_l1New code0).bind fun t7 =>
 (spec_l11Draw t7).bind fun t9 =>
 (spec_l19Pdu t9.1 t9.2).bind fun t13 =>
 some (t9.2, t13.2)
def F_spec_DrawAsked : Fn := ⟨[.val false cNY false], [.val true cBridge false, .val true cPdu true], fun a => spec_DrawAsked a⟩
theorem m_spec_DrawAsked : Meets Tryz.prog 23 F_spec_DrawAsked := mkM g_89 23 Tryz.f23 [] F_spec_DrawAsked Tryz.func23 (by kernel_rfl) (by kernel_rfl) (by kernel_rfl)
def fns_23 : List (FuncId × Fn) := (23, F_spec_DrawAsked) :: fns_89
theorem g_23 : Good Tryz.prog ⟨tis, fns_23, [], false⟩ := g_89.cons m_spec_DrawAsked
def impl_in (n0 : Int) (low1 : Int) (high2 : Int) : Option Bool :=
 (cond (decide (n0 ≥ low1)) (some (decide (n0 ≤ high2))) (some false)).bind fun t14 =>
 some t14
def F_impl_in : Fn := ⟨[.val false cNI false, .val false cNI false, .val false cNI false], [.val false cNB true], fun a => impl_in a.1 a.2.1 a.2.2⟩
theorem m_impl_in : Meets Tryz.prog 85 F_impl_in := mkM g_23 85 Tryz.f85 [] F_impl_in Tryz.func85 (by kernel_rfl) (by kernel_rfl) (by kernel_rfl)
def fns_85 : List (FuncId × Fn) := (85, F_impl_in) :: fns_23
theorem g_85 : Good Tryz.prog ⟨tis, fns_85, [], false⟩ := g_23.cons m_impl_in
def impl_allPorts (ports0 : Int) : Option Int :=
 (shl .i64 1 ports0).bind fun t4 =>
 some (w64 (t4 - 1))
def F_impl_allPorts : Fn := ⟨[.val false cNI false], [.val false cNI true], fun a => impl_allPorts a⟩
theorem m_impl_allPorts : Meets Tryz.prog 206 F_impl_allPorts := mkM g_85 206 Tryz.f206 [] F_impl_allPorts Tryz.func206 (by kernel_rfl) (by kernel_rfl) (by kernel_rfl)
def fns_206 : List (FuncId × Fn) := (206, F_impl_allPorts) :: fns_85
theorem g_206 : Good Tryz.prog ⟨tis, fns_206, [], false⟩ := g_85.cons m_impl_allPorts
def impl_RowAt_l0 (v0 : Vtab) (id1 : Int) (t10 : Int) : Option (Int ⊕ (Unit ⊕ Int)) :=
 cond (decide (t10 < (v0.1.length : Int)))
 ((at? v0.1 t10).bind fun x13 =>
 cond (x13.1 == id1) (some (.inr (.inr t10))) (some (.inl (w64 (t10 + 1)))))
 (some (.inr (.inl ())))
def impl_RowAt (v0 : Vtab) (id1 : Int) : Option Int :=
 (loop (fun z => impl_RowAt_l0 v0 id1 z) 0).bind (Sum.elim (fun d =>
 some (-1)) (fun r => some r))
def F_impl_RowAt : Fn := ⟨[.val true cVtab false, .val false cNI false], [.val false cNI true], fun a => impl_RowAt a.1 a.2⟩
def a_impl_RowAt : List (Nat × LoopAnn) := [(0, ⟨⟨[(10, false, [dI])], []⟩,
 ⟨[], []⟩, some ⟨[(4, false, [dI])], []⟩⟩)]
theorem m_impl_RowAt : Meets Tryz.prog 207 F_impl_RowAt := mkM g_206 207 Tryz.f207 a_impl_RowAt F_impl_RowAt Tryz.func207 (by kernel_rfl) (by kernel_rfl) (by kernel_rfl)
def fns_207 : List (FuncId × Fn) := (207, F_impl_RowAt) :: fns_206
theorem g_207 : Good Tryz.prog ⟨tis, fns_207, [], false⟩ := g_206.cons m_impl_RowAt
def impl_VtabOk_l0 (p0 : Vtab) (i1 : Int) (t28 : Int) : Option (Int ⊕ (Unit ⊕ Bool)) :=
 cond (decide (t28 < (p0.1.length : Int)))
 ((at? p0.1 t28).bind fun x31 =>
 (impl_in x31.1 1 99).bind fun t35 =>
 (cond (!t35)
 (some true)
 ((cond (decide (t28 > 0))
 ((at? p0.1 (w64 (t28 - 1))).bind fun x45 =>
 some (decide (x45.1 ≥ x31.1)))
 (some false)).bind fun t51 =>
 some t51)).bind fun t52 =>
 (cond t52
 (some true)
 ((impl_allPorts i1).bind fun t57 =>
 (impl_in x31.2.1 0 t57).bind fun t58 =>
 some (!t58))).bind fun t60 =>
 (cond t60 (some true) (some ((bclr .i64 x31.2.2 x31.2.1) != 0))).bind fun t68 =>
 cond t68 (some (.inr (.inr false))) (some (.inl (w64 (t28 + 1)))))
 (some (.inr (.inl ())))
def impl_VtabOk_l2 (p0 : Vtab) (t73 : Int) : Option (Int ⊕ (Unit ⊕ Bool)) :=
 cond (decide (t73 < (p0.2.length : Int)))
 ((at? p0.2 t73).bind fun x75 =>
 (impl_RowAt p0 x75).bind fun t79 =>
 cond (decide (t79 < 0)) (some (.inr (.inr false))) (some (.inl (w64 (t73 + 1)))))
 (some (.inr (.inl ())))
def impl_VtabOk (p0 : Vtab) (i1 : Int) : Option Bool :=
 (impl_in i1 1 6).bind fun t10 =>
 (cond (!t10) (some true) (some ((p0.2.length : Int) != i1))).bind fun t18 =>
 (cond t18 (some true) (some (decide ((p0.1.length : Int) > 6)))).bind fun t24 =>
 cond t24
 (some false)
 ((loop (fun z => impl_VtabOk_l0 p0 i1 z) 0).bind (Sum.elim (fun d =>
 (loop (fun z => impl_VtabOk_l2 p0 z) 0).bind (Sum.elim (fun d_1 =>
 some true) (fun r => some r))) (fun r_1 => some r_1)))
def F_impl_VtabOk : Fn := ⟨[.val true cVtab false, .val false cNI false], [.val false cNB true], fun a => impl_VtabOk a.1 a.2⟩
def a_impl_VtabOk : List (Nat × LoopAnn) := [(0, ⟨⟨(28, false, [dI]) :: us 38 14 (us 54 6 (us 62 6 [])), []⟩,
 ⟨[], []⟩, some ⟨[(4, false, [dB])], []⟩⟩),
 (2, ⟨⟨[(73, false, [dI])], []⟩,
 ⟨[], []⟩, some ⟨[(4, false, [dB])], []⟩⟩)]
theorem m_impl_VtabOk : Meets Tryz.prog 91 F_impl_VtabOk := mkM g_207 91 Tryz.f91 a_impl_VtabOk F_impl_VtabOk Tryz.func91 (by kernel_rfl) (by kernel_rfl) (by kernel_rfl)
def fns_91 : List (FuncId × Fn) := (91, F_impl_VtabOk) :: fns_207
theorem g_91 : Good Tryz.prog ⟨tis, fns_91, [], false⟩ := g_207.cons m_impl_VtabOk
def impl_VecOk (v0 : Vec) : Option Bool :=
 (impl_in v0.1 1 99).bind fun t5 =>
 (cond t5
 ((impl_in v0.2.1 0 100000).bind fun t9 =>
 some t9)
 (some false)).bind fun t10 =>
 (cond t10
 ((impl_in v0.2.2.1 0 10).bind fun t14 =>
 some t14)
 (some false)).bind fun t15 =>
 (cond t15
 ((impl_in v0.2.2.2.1 1 99).bind fun t19 =>
 some t19)
 (some false)).bind fun t20 =>
 (cond t20
 ((impl_in v0.2.2.2.2 0 7).bind fun t24 =>
 some t24)
 (some false)).bind fun t25 =>
 some t25
def F_impl_VecOk : Fn := ⟨[.val true cVec false], [.val false cNB true], fun a => impl_VecOk a⟩
theorem m_impl_VecOk : Meets Tryz.prog 163 F_impl_VecOk := mkM g_91 163 Tryz.f163 [] F_impl_VecOk Tryz.func163 (by kernel_rfl) (by kernel_rfl) (by kernel_rfl)
def fns_163 : List (FuncId × Fn) := (163, F_impl_VecOk) :: fns_91
theorem g_163 : Good Tryz.prog ⟨tis, fns_163, [], false⟩ := g_91.cons m_impl_VecOk
def impl_PtOk (p0 : Pt) : Option Bool :=
 (impl_in p0.2.1 1 1000).bind fun t5 =>
 (cond (!t5)
 (some true)
 ((cond p0.2.2.1 (some (!p0.1)) (some false)).bind fun t14 =>
 some t14)).bind fun t15 =>
 cond t15
 (some false)
 (cond p0.2.2.1
 ((impl_VecOk p0.2.2.2).bind fun t20 =>
 some t20)
 (let t2 := p0.2.2.2.1 == 0 && (p0.2.2.2.2.1 == 0 && (p0.2.2.2.2.2.1 == 0 && (p0.2.2.2.2.2.2.1 == 0 && (p0.2.2.2.2.2.2.2 == 0))))
 some t2))
def F_impl_PtOk : Fn := ⟨[.val true cPt false], [.val false cNB true], fun a => impl_PtOk a⟩
theorem m_impl_PtOk : Meets Tryz.prog 100 F_impl_PtOk := mkM g_163 100 Tryz.f100 [] F_impl_PtOk Tryz.func100 (by kernel_rfl) (by kernel_rfl) (by kernel_rfl)
def fns_100 : List (FuncId × Fn) := (100, F_impl_PtOk) :: fns_163
theorem g_100 : Good Tryz.prog ⟨tis, fns_100, [], false⟩ := g_163.cons m_impl_PtOk
def impl_fentOk (e0 : Fent) : Option Bool :=
 (impl_in e0.1 1 99).bind fun t5 =>
 (cond t5
 ((impl_in e0.2.1 1 9999).bind fun t9 =>
 some t9)
 (some false)).bind fun t10 =>
 (cond t10
 ((impl_in e0.2.2.1 0 7).bind fun t14 =>
 some t14)
 (some false)).bind fun t15 =>
 (cond t15
 ((impl_in e0.2.2.2.1 0 4).bind fun t19 =>
 some t19)
 (some false)).bind fun t20 =>
 (cond t20
 ((cond (!e0.2.2.2.2) (some true) (some (e0.2.2.2.1 == 0))).bind fun t29 =>
 some t29)
 (some false)).bind fun t30 =>
 some t30
def F_impl_fentOk : Fn := ⟨[.val true cFent false], [.val false cNB true], fun a => impl_fentOk a⟩
theorem m_impl_fentOk : Meets Tryz.prog 224 F_impl_fentOk := mkM g_100 224 Tryz.f224 [] F_impl_fentOk Tryz.func224 (by kernel_rfl) (by kernel_rfl) (by kernel_rfl)
def fns_224 : List (FuncId × Fn) := (224, F_impl_fentOk) :: fns_100
theorem g_224 : Good Tryz.prog ⟨tis, fns_224, [], false⟩ := g_100.cons m_impl_fentOk
def impl_behind (e0 : Fent) (tag1 : Int) (mac2 : Int) : Option Bool :=
 (cond (decide (e0.1 > tag1))
 (some true)
 ((cond (e0.1 == tag1) (some (decide (e0.2.1 > mac2))) (some false)).bind fun t21 =>
 some t21)).bind fun t22 =>
 some t22
def F_impl_behind : Fn := ⟨[.val true cFent false, .val false cNI false, .val false cNI false], [.val false cNB true], fun a => impl_behind a.1 a.2.1 a.2.2⟩
theorem m_impl_behind : Meets Tryz.prog 225 F_impl_behind := mkM g_224 225 Tryz.f225 [] F_impl_behind Tryz.func225 (by kernel_rfl) (by kernel_rfl) (by kernel_rfl)
def fns_225 : List (FuncId × Fn) := (225, F_impl_behind) :: fns_224
theorem g_225 : Good Tryz.prog ⟨tis, fns_225, [], false⟩ := g_224.cons m_impl_behind
def impl_FdbOk_l0 (l0 : List Fent) (t7 : Int) : Option (Int ⊕ (Unit ⊕ Bool)) :=
 cond (decide (t7 < (l0.length : Int)))
 ((at? l0 t7).bind fun x10 =>
 (impl_fentOk x10).bind fun t13 =>
 (cond (!t13)
 (some true)
 ((cond (decide (t7 > 0))
 ((at? l0 (w64 (t7 - 1))).bind fun x23 =>
 (at? l0 (w64 (t7 - 1))).bind fun x29 =>
 (impl_behind x10 x23.1 x29.2.1).bind fun t32 =>
 some (!t32))
 (some false)).bind fun t34 =>
 some t34)).bind fun t35 =>
 cond t35 (some (.inr (.inr false))) (some (.inl (w64 (t7 + 1)))))
 (some (.inr (.inl ())))
def impl_FdbOk (l0 : List Fent) : Option Bool :=
 (loop (fun z => impl_FdbOk_l0 l0 z) 0).bind (Sum.elim (fun d =>
 let t2 := decide ((l0.length : Int) ≤ 12)
 some t2) (fun r => some r))
def F_impl_FdbOk : Fn := ⟨[.val false (.one (.sl cFent)) false], [.val false cNB true], fun a => impl_FdbOk a⟩
def a_impl_FdbOk : List (Nat × LoopAnn) := [(0, ⟨⟨(7, false, [dI]) :: us 16 19 [], []⟩,
 ⟨[], []⟩, some ⟨[(2, false, [dB])], []⟩⟩)]
theorem m_impl_FdbOk : Meets Tryz.prog 101 F_impl_FdbOk := mkM g_225 101 Tryz.f101 a_impl_FdbOk F_impl_FdbOk Tryz.func101 (by kernel_rfl) (by kernel_rfl) (by kernel_rfl)
def fns_101 : List (FuncId × Fn) := (101, F_impl_FdbOk) :: fns_225
theorem g_101 : Good Tryz.prog ⟨tis, fns_101, [], false⟩ := g_225.cons m_impl_FdbOk
def impl_isCount (n0 : Int) : Option Bool :=
 (impl_in n0 0 1000000).bind fun t4 =>
 some t4
def F_impl_isCount : Fn := ⟨[.val false cNI false], [.val false cNB true], fun a => impl_isCount a⟩
theorem m_impl_isCount : Meets Tryz.prog 102 F_impl_isCount := mkM g_101 102 Tryz.f102 [] F_impl_isCount Tryz.func102 (by kernel_rfl) (by kernel_rfl) (by kernel_rfl)
def fns_102 : List (FuncId × Fn) := (102, F_impl_isCount) :: fns_101
theorem g_102 : Good Tryz.prog ⟨tis, fns_102, [], false⟩ := g_101.cons m_impl_isCount
def impl_BridgeOk_l0 (p0 : Bridge) (t8 : Int) : Option (Int ⊕ (Unit ⊕ Bool)) :=
 cond (decide (t8 < (p0.2.2.1.length : Int)))
 ((at? p0.2.2.1 t8).bind fun x10 =>
 (impl_PtOk x10).bind fun t13 =>
 cond (!t13) (some (.inr (.inr false))) (some (.inl (w64 (t8 + 1)))))
 (some (.inr (.inl ())))
def impl_BridgeOk (p0 : Bridge) : Option Bool :=
 (loop (fun z => impl_BridgeOk_l0 p0 z) 0).bind (Sum.elim (fun d =>
 (impl_in p0.1 1 99).bind fun t18 =>
 (cond (!t18) (some true) (some (decide ((p0.2.1.length : Int) > 10)))).bind fun t25 =>
 (cond t25
 (some true)
 ((impl_in (p0.2.2.1.length : Int) 1 6).bind fun t30 =>
 some (!t30))).bind fun t32 =>
 (cond t32
 (some true)
 ((impl_FdbOk p0.2.2.2.1).bind fun t36 =>
 some (!t36))).bind fun t38 =>
 (cond t38
 (some true)
 ((impl_VtabOk (p0.2.2.2.2.1, p0.2.2.2.2.2.1) (p0.2.2.1.length : Int)).bind fun t45 =>
 some (!t45))).bind fun t47 =>
 cond t47
 (some false)
 ((impl_isCount p0.2.2.2.2.2.2.1).bind fun t50 =>
 (cond t50
 ((impl_isCount p0.2.2.2.2.2.2.2.1).bind fun t54 =>
 some t54)
 (some false)).bind fun t55 =>
 (cond t55
 ((impl_isCount p0.2.2.2.2.2.2.2.2.1).bind fun t59 =>
 some t59)
 (some false)).bind fun t60 =>
 (cond t60
 ((impl_isCount p0.2.2.2.2.2.2.2.2.2.1).bind fun t64 =>
 some t64)
 (some false)).bind fun t65 =>
 (cond t65
 ((impl_isCount p0.2.2.2.2.2.2.2.2.2.2).bind fun t69 =>
 some t69)
 (some false)).bind fun t70 =>
 some t70)) (fun r => some r))
def F_impl_BridgeOk : Fn := ⟨[.val true cBridge false], [.val false cNB true], fun a => impl_BridgeOk a⟩
def a_impl_BridgeOk : List (Nat × LoopAnn) := [(0, ⟨⟨[(8, false, [dI])], []⟩,
 ⟨[], []⟩, some ⟨[(2, false, [dB])], []⟩⟩)]
theorem m_impl_BridgeOk : Meets Tryz.prog 27 F_impl_BridgeOk := mkM g_102 27 Tryz.f27 a_impl_BridgeOk F_impl_BridgeOk Tryz.func27 (by kernel_rfl) (by kernel_rfl) (by kernel_rfl)
def fns_27 : List (FuncId × Fn) := (27, F_impl_BridgeOk) :: fns_102
theorem g_27 : Good Tryz.prog ⟨tis, fns_27, [], false⟩ := g_102.cons m_impl_BridgeOk
def impl_copyFdb (l0 : List Fent) : Option (List Fent) :=
 (app [] l0).bind fun zs4 =>
 some zs4
def F_impl_copyFdb : Fn := ⟨[.val false (.one (.sl cFent)) false], [.val false (.one (.sl cFent)) true], fun a => impl_copyFdb a⟩
theorem m_impl_copyFdb : Meets Tryz.prog 192 F_impl_copyFdb := mkM g_27 192 Tryz.f192 [] F_impl_copyFdb Tryz.func192 (by kernel_rfl) (by kernel_rfl) (by kernel_rfl)
def fns_192 : List (FuncId × Fn) := (192, F_impl_copyFdb) :: fns_27
theorem g_192 : Good Tryz.prog ⟨tis, fns_192, [], false⟩ := g_27.cons m_impl_copyFdb
def impl_copyInts (l0 : List Int) : Option (List Int) :=
 (app [] l0).bind fun zs4 =>
 some zs4
def F_impl_copyInts : Fn := ⟨[.val false cNN false], [.val false cNN true], fun a => impl_copyInts a⟩
theorem m_impl_copyInts : Meets Tryz.prog 82 F_impl_copyInts := mkM g_192 82 Tryz.f82 [] F_impl_copyInts Tryz.func82 (by kernel_rfl) (by kernel_rfl) (by kernel_rfl)
def fns_82 : List (FuncId × Fn) := (82, F_impl_copyInts) :: fns_192
theorem g_82 : Good Tryz.prog ⟨tis, fns_82, [], false⟩ := g_192.cons m_impl_copyInts
def impl_copyVtab (v0 : Vtab) : Option Vtab :=
 (app [] v0.1).bind fun zs5 =>
 (impl_copyInts v0.2).bind fun t8 =>
 some (zs5, t8)
def F_impl_copyVtab : Fn := ⟨[.val true cVtab false], [.val true cVtab true], fun a => impl_copyVtab a⟩
theorem m_impl_copyVtab : Meets Tryz.prog 193 F_impl_copyVtab := mkM g_82 193 Tryz.f193 [] F_impl_copyVtab Tryz.func193 (by kernel_rfl) (by kernel_rfl) (by kernel_rfl)
def fns_193 : List (FuncId × Fn) := (193, F_impl_copyVtab) :: fns_82
theorem g_193 : Good Tryz.prog ⟨tis, fns_193, [], false⟩ := g_82.cons m_impl_copyVtab
def impl_copyBridge (b0 : Bridge) : Option Bridge :=
 (app [] b0.2.2.1).bind fun zs5 =>
 (impl_copyFdb b0.2.2.2.1).bind fun t9 =>
 (impl_copyVtab (b0.2.2.2.2.1, b0.2.2.2.2.2.1)).bind fun t12 =>
 some (b0.1, b0.2.1, zs5, t9, t12.1, t12.2, b0.2.2.2.2.2.2.1, b0.2.2.2.2.2.2.2.1, b0.2.2.2.2.2.2.2.2.1, b0.2.2.2.2.2.2.2.2.2.1, b0.2.2.2.2.2.2.2.2.2.2)
def F_impl_copyBridge : Fn := ⟨[.val true cBridge false], [.val true cBridge true], fun a => impl_copyBridge a⟩
theorem m_impl_copyBridge : Meets Tryz.prog 80 F_impl_copyBridge := mkM g_193 80 Tryz.f80 [] F_impl_copyBridge Tryz.func80 (by kernel_rfl) (by kernel_rfl) (by kernel_rfl)
def fns_80 : List (FuncId × Fn) := (80, F_impl_copyBridge) :: fns_193
theorem g_80 : Good Tryz.prog ⟨tis, fns_80, [], false⟩ := g_193.cons m_impl_copyBridge
def impl_numbered (o0 : List Int) (low1 : Int) (high2 : Int) (head3 : List Int) : Option Bool :=
 cond ((o0.length : Int) == (w64 ((head3.length : Int) + 4)))
 ((cut o0 0 (w64 ((o0.length : Int) - 1))).bind fun t20 =>
 (app ([1, 3, 1] : List Int) head3).bind fun zs23 =>
 (impl_SameOid t20 zs23).bind fun t24 =>
 (cond t24
 ((at? o0 (w64 ((o0.length : Int) - 1))).bind fun x31 =>
 (impl_in x31 low1 high2).bind fun t35 =>
 some t35)
 (some false)).bind fun t36 =>
 some t36)
 ((some false).bind fun t36_1 =>
 some t36_1)
def F_impl_numbered : Fn := ⟨[.val false cNN false, .val false cNI false, .val false cNI false, .val false cNN false], [.val false cNB true], fun a => impl_numbered a.1 a.2.1 a.2.2.1 a.2.2.2⟩
theorem m_impl_numbered : Meets Tryz.prog 307 F_impl_numbered := mkM g_80 307 Tryz.f307 [] F_impl_numbered Tryz.func307 (by kernel_rfl) (by kernel_rfl) (by kernel_rfl)
def fns_307 : List (FuncId × Fn) := (307, F_impl_numbered) :: fns_80
theorem g_307 : Good Tryz.prog ⟨tis, fns_307, [], false⟩ := g_80.cons m_impl_numbered
def impl_canSet (b0 : Bridge) (o1 : List Int) : Option Bool :=
 (impl_numbered o1 1 1 ([1] : List Int)).bind fun t11 =>
 (cond t11
 (some true)
 ((impl_numbered o1 1 (b0.2.2.1.length : Int) ([2, 2] : List Int)).bind fun t16 =>
 some t16)).bind fun t17 =>
 (cond t17
 (some true)
 ((impl_numbered o1 1 (b0.2.2.1.length : Int) ([2, 4] : List Int)).bind fun t22 =>
 some t22)).bind fun t23 =>
 (cond t23
 (some true)
 ((impl_numbered o1 1 99 ([3, 1] : List Int)).bind fun t27 =>
 some t27)).bind fun t28 =>
 cond t28
 (some true)
 ((impl_numbered o1 1 99 ([3, 2] : List Int)).bind fun t31 =>
 (cond t31
 (some true)
 ((impl_numbered o1 1 99 ([3, 3] : List Int)).bind fun t35 =>
 some t35)).bind fun t36 =>
 (cond t36
 ((at? o1 5).bind fun x41 =>
 (impl_RowAt (b0.2.2.2.2.1, b0.2.2.2.2.2.1) x41).bind fun t43 =>
 some (decide (t43 ≥ 0)))
 (some false)).bind fun t45 =>
 some t45)
def F_impl_canSet : Fn := ⟨[.val true cBridge false, .val false cNN false], [.val false cNB true], fun a => impl_canSet a.1 a.2⟩
theorem m_impl_canSet : Meets Tryz.prog 203 F_impl_canSet := mkM g_307 203 Tryz.f203 [] F_impl_canSet Tryz.func203 (by kernel_rfl) (by kernel_rfl) (by kernel_rfl)
def fns_203 : List (FuncId × Fn) := (203, F_impl_canSet) :: fns_307
theorem g_203 : Good Tryz.prog ⟨tis, fns_203, [], false⟩ := g_307.cons m_impl_canSet
def impl_withRow_l0 (v0 : Vtab) (r1 : Vrow) (k7 : Int) : Option (Int ⊕ Int) :=
 (cond (decide (k7 < (v0.1.length : Int)))
 ((at? v0.1 k7).bind fun x31 =>
 some (decide (x31.1 ≤ r1.1)))
 (some false)).bind fun t37 =>
 cond t37 (some (.inl (w64 (k7 + 1)))) (some (.inr k7))
def impl_withRow (v0 : Vtab) (r1 : Vrow) : Option Vtab :=
 (impl_copyVtab v0).bind fun t9 =>
 (impl_RowAt v0 r1.1).bind fun t13 =>
 cond (decide (t13 ≥ 0))
 ((ix t9.1.length t13).bind fun j20 =>
 (t9.1[j20]?).bind fun x =>
 some (t9.1.set j20 r1, t9.2))
 ((loop (fun z => impl_withRow_l0 v0 r1 z) 0).bind fun d =>
 (cut v0.1 0 d).bind fun t43 =>
 (app [] t43).bind fun zs44 =>
 (app zs44 [r1]).bind fun zs47 =>
 (cut v0.1 d (v0.1.length : Int)).bind fun t51 =>
 (app zs47 t51).bind fun zs52 =>
 some (zs52, t9.2))
def F_impl_withRow : Fn := ⟨[.val true cVtab false, .val true cVrow false], [.val true cVtab true], fun a => impl_withRow a.1 a.2⟩
def a_impl_withRow : List (Nat × LoopAnn) := [(0, ⟨⟨(7, false, [dI]) :: us 28 9 [], []⟩,
 ⟨[(7, false, [dI])], []⟩, none⟩)]
theorem m_impl_withRow : Meets Tryz.prog 353 F_impl_withRow := mkM g_203 353 Tryz.f353 a_impl_withRow F_impl_withRow Tryz.func353 (by kernel_rfl) (by kernel_rfl) (by kernel_rfl)
def fns_353 : List (FuncId × Fn) := (353, F_impl_withRow) :: fns_203
theorem g_353 : Good Tryz.prog ⟨tis, fns_353, [], false⟩ := g_203.cons m_impl_withRow
def impl_withoutRow (v0 : Vtab) (id1 : Int) : Option Vtab :=
 (impl_copyVtab v0).bind fun t8 =>
 (impl_RowAt v0 id1).bind fun t11 =>
 cond (decide (t11 ≥ 0))
 ((cut v0.1 0 t11).bind fun t17 =>
 (app [] t17).bind fun zs18 =>
 (cut v0.1 (w64 (t11 + 1)) (v0.1.length : Int)).bind fun t23 =>
 (app zs18 t23).bind fun zs24 =>
 some (zs24, t8.2))
 (some t8)
def F_impl_withoutRow : Fn := ⟨[.val true cVtab false, .val false cNI false], [.val true cVtab true], fun a => impl_withoutRow a.1 a.2⟩
theorem m_impl_withoutRow : Meets Tryz.prog 354 F_impl_withoutRow := mkM g_353 354 Tryz.f354 [] F_impl_withoutRow Tryz.func354 (by kernel_rfl) (by kernel_rfl) (by kernel_rfl)
def fns_354 : List (FuncId × Fn) := (354, F_impl_withoutRow) :: fns_353
theorem g_354 : Good Tryz.prog ⟨tis, fns_354, [], false⟩ := g_353.cons m_impl_withoutRow
def impl_Bridge_setRow (p0 : Bridge) (i1 : Int) (a2 : Int) (a3 : Int) : Option (Bridge × Int) :=
 (impl_RowAt (p0.2.2.2.2.1, p0.2.2.2.2.2.1) a2).bind fun t15 =>
 cond (i1 == 1)
 ((cond (a3 == 4) (some (decide (t15 < 0))) (some false)).bind fun t24 =>
 (cond t24 (some (decide ((p0.2.2.2.2.1.length : Int) < 6))) (some false)).bind fun t33 =>
 cond t33
 ((impl_withRow (p0.2.2.2.2.1, p0.2.2.2.2.2.1) (a2, 0, 0)).bind fun t41 =>
 some ((p0.1, p0.2.1, p0.2.2.1, p0.2.2.2.1, t41.1, t41.2, p0.2.2.2.2.2.2.1, p0.2.2.2.2.2.2.2.1, p0.2.2.2.2.2.2.2.2.1, p0.2.2.2.2.2.2.2.2.2.1, p0.2.2.2.2.2.2.2.2.2.2), 0))
 ((cond (a3 == 6) (some (decide (t15 ≥ 0))) (some false)).bind fun t50 =>
 cond t50
 ((impl_withoutRow (p0.2.2.2.2.1, p0.2.2.2.2.2.1) a2).bind fun t57 =>
 some ((p0.1, p0.2.1, p0.2.2.1, p0.2.2.2.1, t57.1, t57.2, p0.2.2.2.2.2.2.1, p0.2.2.2.2.2.2.2.1, p0.2.2.2.2.2.2.2.2.1, p0.2.2.2.2.2.2.2.2.2.1, p0.2.2.2.2.2.2.2.2.2.2), 0))
 (some (p0, 2))))
 ((impl_allPorts (p0.2.2.1.length : Int)).bind fun t66 =>
 (impl_in a3 0 t66).bind fun t67 =>
 cond (!t67)
 (some (p0, 2))
 (cond (i1 == 2)
 ((ix p0.2.2.2.2.1.length t15).bind fun j78 =>
 (p0.2.2.2.2.1[j78]?).bind fun x =>
 some ((p0.1, p0.2.1, p0.2.2.1, p0.2.2.2.1, p0.2.2.2.2.1.set j78 (x.1, a3, x.2.2), p0.2.2.2.2.2.1, p0.2.2.2.2.2.2.1, p0.2.2.2.2.2.2.2.1, p0.2.2.2.2.2.2.2.2.1, p0.2.2.2.2.2.2.2.2.2.1, p0.2.2.2.2.2.2.2.2.2.2), 0))
 ((ix p0.2.2.2.2.1.length t15).bind fun j87 =>
 (p0.2.2.2.2.1[j87]?).bind fun x_1 =>
 some ((p0.1, p0.2.1, p0.2.2.1, p0.2.2.2.1, p0.2.2.2.2.1.set j87 (x_1.1, x_1.2.1, a3), p0.2.2.2.2.2.1, p0.2.2.2.2.2.2.1, p0.2.2.2.2.2.2.2.1, p0.2.2.2.2.2.2.2.2.1, p0.2.2.2.2.2.2.2.2.2.1, p0.2.2.2.2.2.2.2.2.2.2), 0))))
def F_impl_Bridge_setRow : Fn := ⟨[.ptr cBridge true, .val false cNI false, .val false cNI false, .val false cNI false], [.val false cNI true], fun a => impl_Bridge_setRow a.1 a.2.1 a.2.2.1 a.2.2.2⟩
theorem m_impl_Bridge_setRow : Meets Tryz.prog 308 F_impl_Bridge_setRow := mkM g_354 308 Tryz.f308 [] F_impl_Bridge_setRow Tryz.func308 (by kernel_rfl) (by kernel_rfl) (by kernel_rfl)
def fns_308 : List (FuncId × Fn) := (308, F_impl_Bridge_setRow) :: fns_354
theorem g_308 : Good Tryz.prog ⟨tis, fns_308, [], false⟩ := g_354.cons m_impl_Bridge_setRow
def impl_Bridge_setThing (p0 : Bridge) (i1 : List Int) (a2 : Val) : Option (Bridge × Int) :=
 (at? i1 3).bind fun x9 =>
 (cond (x9 == 1) (some (a2.1 != 4)) (some false)).bind fun t17 =>
 (cond t17
 (some true)
 ((cond (!(x9 == 1)) (some (a2.1 != 2)) (some false)).bind fun t25 =>
 some t25)).bind fun t26 =>
 cond t26
 (some (p0, 1))
 (cond (x9 == 1)
 (cond (decide ((a2.2.2.1.length : Int) > 10))
 (some (p0, 2))
 (some ((p0.1, a2.2.2.1, p0.2.2.1, p0.2.2.2.1, p0.2.2.2.2.1, p0.2.2.2.2.2.1, p0.2.2.2.2.2.2.1, p0.2.2.2.2.2.2.2.1, p0.2.2.2.2.2.2.2.2.1, p0.2.2.2.2.2.2.2.2.2.1, p0.2.2.2.2.2.2.2.2.2.2), 0)))
 ((at? i1 3).bind fun x52 =>
 cond (x52 == 3)
 ((at? i1 4).bind fun x57 =>
 (at? i1 5).bind fun x60 =>
 (impl_Bridge_setRow p0 x57 x60 a2.2.1).bind fun t64 =>
 some t64)
 ((at? i1 4).bind fun x67 =>
 cond (x67 == 2)
 ((impl_in a2.2.1 1 1000).bind fun t72 =>
 cond (!t72)
 (some (p0, 2))
 ((at? i1 5).bind fun x79 =>
 (ix p0.2.2.1.length (w64 (x79 - 1))).bind fun j84 =>
 (p0.2.2.1[j84]?).bind fun x =>
 some ((p0.1, p0.2.1, p0.2.2.1.set j84 (x.1, a2.2.1, x.2.2.1, x.2.2.2.1, x.2.2.2.2.1, x.2.2.2.2.2.1, x.2.2.2.2.2.2.1, x.2.2.2.2.2.2.2), p0.2.2.2.1, p0.2.2.2.2.1, p0.2.2.2.2.2.1, p0.2.2.2.2.2.2.1, p0.2.2.2.2.2.2.2.1, p0.2.2.2.2.2.2.2.2.1, p0.2.2.2.2.2.2.2.2.2.1, p0.2.2.2.2.2.2.2.2.2.2), 0)))
 ((at? i1 5).bind fun x33 =>
 (ix p0.2.2.2.2.2.1.length (w64 (x33 - 1))).bind fun j38 =>
 (p0.2.2.2.2.2.1[j38]?).bind fun x_1 =>
 some ((p0.1, p0.2.1, p0.2.2.1, p0.2.2.2.1, p0.2.2.2.2.1, p0.2.2.2.2.2.1.set j38 a2.2.1, p0.2.2.2.2.2.2.1, p0.2.2.2.2.2.2.2.1, p0.2.2.2.2.2.2.2.2.1, p0.2.2.2.2.2.2.2.2.2.1, p0.2.2.2.2.2.2.2.2.2.2), 0)))))
def F_impl_Bridge_setThing : Fn := ⟨[.ptr cBridge true, .val false cNN false, .val true cVal false], [.val false cNI true], fun a => impl_Bridge_setThing a.1 a.2.1 a.2.2⟩
theorem m_impl_Bridge_setThing : Meets Tryz.prog 204 F_impl_Bridge_setThing := mkM g_308 204 Tryz.f204 [] F_impl_Bridge_setThing Tryz.func204 (by kernel_rfl) (by kernel_rfl) (by kernel_rfl)
def fns_204 : List (FuncId × Fn) := (204, F_impl_Bridge_setThing) :: fns_308
theorem g_204 : Good Tryz.prog ⟨tis, fns_204, [], false⟩ := g_308.cons m_impl_Bridge_setThing
def impl_entAt_l0 (l0 : List Fent) (tag1 : Int) (mac2 : Int) (t11 : Int) : Option (Int ⊕ (Unit ⊕ Int)) :=
 cond (decide (t11 < (l0.length : Int)))
 ((at? l0 t11).bind fun x14 =>
 (cond (x14.1 == tag1) (some (x14.2.1 == mac2)) (some false)).bind fun t25 =>
 cond t25 (some (.inr (.inr t11))) (some (.inl (w64 (t11 + 1)))))
 (some (.inr (.inl ())))
def impl_entAt (l0 : List Fent) (tag1 : Int) (mac2 : Int) : Option Int :=
 (loop (fun z => impl_entAt_l0 l0 tag1 mac2 z) 0).bind (Sum.elim (fun d =>
 some (-1)) (fun r => some r))
def F_impl_entAt : Fn := ⟨[.val false (.one (.sl cFent)) false, .val false cNI false, .val false cNI false], [.val false cNI true], fun a => impl_entAt a.1 a.2.1 a.2.2⟩
def a_impl_entAt : List (Nat × LoopAnn) := [(0, ⟨⟨(11, false, [dI]) :: us 21 4 [], []⟩,
 ⟨[], []⟩, some ⟨[(6, false, [dI])], []⟩⟩)]
theorem m_impl_entAt : Meets Tryz.prog 309 F_impl_entAt := mkM g_204 309 Tryz.f309 a_impl_entAt F_impl_entAt Tryz.func309 (by kernel_rfl) (by kernel_rfl) (by kernel_rfl)
def fns_309 : List (FuncId × Fn) := (309, F_impl_entAt) :: fns_204
theorem g_309 : Good Tryz.prog ⟨tis, fns_309, [], false⟩ := g_204.cons m_impl_entAt
def impl_canRead (b0 : Bridge) (o1 : List Int) : Option Bool :=
 (impl_numbered o1 2 5 ([1] : List Int)).bind fun t11 =>
 (cond t11
 (some true)
 ((impl_numbered o1 1 (b0.2.2.1.length : Int) ([2, 1] : List Int)).bind fun t16 =>
 some t16)).bind fun t17 =>
 (cond t17
 (some true)
 ((impl_numbered o1 1 (b0.2.2.1.length : Int) ([2, 3] : List Int)).bind fun t22 =>
 some t22)).bind fun t23 =>
 cond t23
 (some true)
 ((cond ((o1.length : Int) == 7)
 ((cut o1 0 5).bind fun t29 =>
 (impl_SameOid t29 ([1, 3, 1, 4, 1] : List Int)).bind fun t31 =>
 some t31)
 (some false)).bind fun t32 =>
 (cond t32
 ((at? o1 5).bind fun x37 =>
 (at? o1 6).bind fun x40 =>
 (impl_entAt b0.2.2.2.1 x37 x40).bind fun t42 =>
 some (decide (t42 ≥ 0)))
 (some false)).bind fun t44 =>
 some t44)
def F_impl_canRead : Fn := ⟨[.val true cBridge false, .val false cNN false], [.val false cNB true], fun a => impl_canRead a.1 a.2⟩
theorem m_impl_canRead : Meets Tryz.prog 205 F_impl_canRead := mkM g_309 205 Tryz.f205 [] F_impl_canRead Tryz.func205 (by kernel_rfl) (by kernel_rfl) (by kernel_rfl)
def fns_205 : List (FuncId × Fn) := (205, F_impl_canRead) :: fns_309
theorem g_205 : Good Tryz.prog ⟨tis, fns_205, [], false⟩ := g_309.cons m_impl_canRead
def impl_Bridge_set (b0 : Bridge) (x1 : Bind) : Option (Bridge × Int) :=
 (impl_canSet b0 x1.1).bind fun t11 =>
 cond t11
 ((impl_Bridge_setThing b0 x1.1 x1.2).bind fun t17 =>
 some t17)
 ((impl_canRead b0 x1.1).bind fun t24 =>
 cond t24 (some (b0, 4)) (some (b0, 3)))
def F_impl_Bridge_set : Fn := ⟨[.ptr cBridge true, .val true cBind false], [.val false cNI true], fun a => impl_Bridge_set a.1 a.2⟩
theorem m_impl_Bridge_set : Meets Tryz.prog 90 F_impl_Bridge_set := mkM g_205 90 Tryz.f90 [] F_impl_Bridge_set Tryz.func90 (by kernel_rfl) (by kernel_rfl) (by kernel_rfl)
def fns_90 : List (FuncId × Fn) := (90, F_impl_Bridge_set) :: fns_205
theorem g_90 : Good Tryz.prog ⟨tis, fns_90, [], false⟩ := g_205.cons m_impl_Bridge_set
def impl_more (n0 : Int) : Option Int :=
 let t2 := min2 (w64 (n0 + 1)) 1000000
 some t2
def F_impl_more : Fn := ⟨[.val false cNI false], [.val false cNI true], fun a => impl_more a⟩
theorem m_impl_more : Meets Tryz.prog 110 F_impl_more := mkM g_90 110 Tryz.f110 [] F_impl_more Tryz.func110 (by kernel_rfl) (by kernel_rfl) (by kernel_rfl)
def fns_110 : List (FuncId × Fn) := (110, F_impl_more) :: fns_90
theorem g_110 : Good Tryz.prog ⟨tis, fns_110, [], false⟩ := g_90.cons m_impl_more
def impl_LessVec (a0 : Vec) (b1 : Vec) : Option Bool :=
 cond (a0.1 != b1.1)
 (some (decide (a0.1 < b1.1)))
 (cond (a0.2.1 != b1.2.1)
 (some (decide (a0.2.1 < b1.2.1)))
 (cond (a0.2.2.2.1 != b1.2.2.2.1)
 (let t4 := decide (a0.2.2.2.1 < b1.2.2.2.1)
 some t4)
 (let t4_1 := decide (a0.2.2.2.2 < b1.2.2.2.2)
 some t4_1)))
def F_impl_LessVec : Fn := ⟨[.val true cVec false, .val true cVec false], [.val false cNB true], fun a => impl_LessVec a.1 a.2⟩
theorem m_impl_LessVec : Meets Tryz.prog 284 F_impl_LessVec := mkM g_110 284 Tryz.f284 [] F_impl_LessVec Tryz.func284 (by kernel_rfl) (by kernel_rfl) (by kernel_rfl)
def fns_284 : List (FuncId × Fn) := (284, F_impl_LessVec) :: fns_110
theorem g_284 : Good Tryz.prog ⟨tis, fns_284, [], false⟩ := g_110.cons m_impl_LessVec
def impl_StepVec (v0 : Vec) (cost1 : Int) : Option (Vec × Bool) :=
 (impl_VecOk v0).bind fun t8 =>
 (cond (!t8)
 (some true)
 ((impl_in cost1 1 1000).bind fun t12 =>
 some (!t12))).bind fun t14 =>
 cond t14
 (some (v0, false))
 ((impl_VecOk (v0.1, w64 (v0.2.1 + cost1), w64 (v0.2.2.1 + 1), v0.2.2.2.1, v0.2.2.2.2)).bind fun t27 =>
 cond (!t27)
 (some (v0, false))
 (some ((v0.1, w64 (v0.2.1 + cost1), w64 (v0.2.2.1 + 1), v0.2.2.2.1, v0.2.2.2.2), true)))
def F_impl_StepVec : Fn := ⟨[.val true cVec false, .val false cNI false], [.val true cVec true, .val false cNB true], fun a => impl_StepVec a.1 a.2⟩
theorem m_impl_StepVec : Meets Tryz.prog 347 F_impl_StepVec := mkM g_284 347 Tryz.f347 [] F_impl_StepVec Tryz.func347 (by kernel_rfl) (by kernel_rfl) (by kernel_rfl)
def fns_347 : List (FuncId × Fn) := (347, F_impl_StepVec) :: fns_284
theorem g_347 : Good Tryz.prog ⟨tis, fns_347, [], false⟩ := g_284.cons m_impl_StepVec
def impl_BestVec_l0 (p0 : Int) (i1 : List Pt) (t7 : Int) (t18 : Int) (b0 : Int) (b1 : Int) (b2 : Int) (b3 : Int) (b4 : Int) (b0_1 : Int) (b1_1 : Int) (b2_1 : Int) (b3_1 : Int) (b4_1 : Int) : Option ((Int × Int × Int × Int × Int × Int × Int × Int × Int × Int × Int × Int) ⊕ (Int × Int × Int × Int × Int × Int × Int × Int × Int × Int × Int)) :=
 cond (decide (t18 < (i1.length : Int)))
 ((at? i1 t18).bind fun x21 =>
 (cond (!x21.1) (some true) (some (!x21.2.2.1))).bind fun t30 =>
 cond t30
 (some (.inl (t7, w64 (t18 + 1), b0, b1, b2, b3, b4, b0_1, b1_1, b2_1, b3_1, b4_1)))
 ((impl_StepVec x21.2.2.2 x21.2.1).bind fun t36 =>
 (cond t36.2 (some (decide (t36.1.1 < p0))) (some false)).bind fun t45 =>
 (cond t45
 ((cond (decide (t7 < 0))
 (some true)
 ((impl_LessVec t36.1 (b0_1, b1_1, b2_1, b3_1, b4_1)).bind fun t52 =>
 some t52)).bind fun t53 =>
 some t53)
 (some false)).bind fun t54 =>
 cond t54
 (some (.inl (t18, w64 (t18 + 1), t36.1.1, t36.1.2.1, t36.1.2.2.1, p0, 0, t36.1.1, t36.1.2.1, t36.1.2.2.1, t36.1.2.2.2.1, t36.1.2.2.2.2)))
 (some (.inl (t7, w64 (t18 + 1), b0, b1, b2, b3, b4, b0_1, b1_1, b2_1, b3_1, b4_1)))))
 (some (.inr (t7, b0, b1, b2, b3, b4, b0_1, b1_1, b2_1, b3_1, b4_1)))
def impl_BestVec (p0 : Int) (i1 : List Pt) : Option (Vec × Int) :=
 (loop (fun z => impl_BestVec_l0 p0 i1 z.1 z.2.1 z.2.2.1 z.2.2.2.1 z.2.2.2.2.1 z.2.2.2.2.2.1 z.2.2.2.2.2.2.1 z.2.2.2.2.2.2.2.1 z.2.2.2.2.2.2.2.2.1 z.2.2.2.2.2.2.2.2.2.1 z.2.2.2.2.2.2.2.2.2.2.1 z.2.2.2.2.2.2.2.2.2.2.2) ((-1), 0, p0, 0, 0, p0, 0, 0, 0, 0, 0, 0)).bind fun d =>
 some ((d.2.1, d.2.2.1, d.2.2.2.1, d.2.2.2.2.1, d.2.2.2.2.2.1), d.1)
def F_impl_BestVec : Fn := ⟨[.val false cNI false, .val false (.one (.sl cPt)) false], [.val true cVec true, .val false cNI true], fun a => impl_BestVec a.1 a.2⟩
def a_impl_BestVec : List (Nat × LoopAnn) := [(0, ⟨⟨(7, false, [dI]) :: (18, false, [dI]) :: us 27 3 (us 41 4 (us 47 7 [])), [(266240, .box [dI, dI, dI, dI, dI]), (525312, .box [dI, dI, dI, dI, dI])]⟩,
 ⟨[(7, false, [dI])], [(266240, .box [dI, dI, dI, dI, dI]), (525312, .box [dI, dI, dI, dI, dI])]⟩, none⟩)]
theorem m_impl_BestVec : Meets Tryz.prog 281 F_impl_BestVec := mkM g_347 281 Tryz.f281 a_impl_BestVec F_impl_BestVec Tryz.func281 (by kernel_rfl) (by kernel_rfl) (by kernel_rfl)
def fns_281 : List (FuncId × Fn) := (281, F_impl_BestVec) :: fns_347
theorem g_281 : Good Tryz.prog ⟨tis, fns_281, [], false⟩ := g_347.cons m_impl_BestVec
def impl_SayVec (id0 : Int) (l1 : List Pt) (port2 : Int) : Option Vec :=
 (impl_BestVec id0 l1).bind fun t12 =>
 some (t12.1.1, t12.1.2.1, t12.1.2.2.1, t12.1.2.2.2.1, port2)
def F_impl_SayVec : Fn := ⟨[.val false cNI false, .val false (.one (.sl cPt)) false, .val false cNI false], [.val true cVec true], fun a => impl_SayVec a.1 a.2.1 a.2.2⟩
theorem m_impl_SayVec : Meets Tryz.prog 278 F_impl_SayVec := mkM g_281 278 Tryz.f278 [] F_impl_SayVec Tryz.func278 (by kernel_rfl) (by kernel_rfl) (by kernel_rfl)
def fns_278 : List (FuncId × Fn) := (278, F_impl_SayVec) :: fns_281
theorem g_278 : Good Tryz.prog ⟨tis, fns_278, [], false⟩ := g_281.cons m_impl_SayVec
def impl_RoleOf (id0 : Int) (l1 : List Pt) (port2 : Int) : Option Int :=
 (impl_in port2 0 (w64 ((l1.length : Int) - 1))).bind fun t13 =>
 (cond (!t13)
 (some true)
 ((at? l1 port2).bind fun x18 =>
 some (!x18.1))).bind fun t22 =>
 cond t22
 (some 4)
 ((impl_BestVec id0 l1).bind fun t26 =>
 cond (t26.2 == port2)
 (some 1)
 ((at? l1 port2).bind fun x36 =>
 (cond (!x36.2.2.1)
 (some true)
 ((impl_SayVec id0 l1 port2).bind fun t44 =>
 (at? l1 port2).bind fun x47 =>
 (impl_LessVec t44 x47.2.2.2).bind fun t50 =>
 some t50)).bind fun t51 =>
 cond t51 (some 2) (some 3)))
def F_impl_RoleOf : Fn := ⟨[.val false cNI false, .val false (.one (.sl cPt)) false, .val false cNI false], [.val false cNI true], fun a => impl_RoleOf a.1 a.2.1 a.2.2⟩
theorem m_impl_RoleOf : Meets Tryz.prog 173 F_impl_RoleOf := mkM g_278 173 Tryz.f173 [] F_impl_RoleOf Tryz.func173 (by kernel_rfl) (by kernel_rfl) (by kernel_rfl)
def fns_173 : List (FuncId × Fn) := (173, F_impl_RoleOf) :: fns_278
theorem g_173 : Good Tryz.prog ⟨tis, fns_173, [], false⟩ := g_278.cons m_impl_RoleOf
def impl_Sends_l0 (id0 : Int) (l1 : List Pt) (bits5 : Int) (port6 : Int) : Option ((Int × Int) ⊕ Int) :=
 (cond (decide (port6 < (l1.length : Int))) (some (decide (port6 < 6))) (some false)).bind fun t15 =>
 cond t15
 ((impl_RoleOf id0 l1 port6).bind fun t21 =>
 (cond (t21 == 1) (some true) (some (t21 == 2))).bind fun t27 =>
 cond t27
 ((shl .i64 1 port6).bind fun t30 =>
 some (.inl (bor .i64 bits5 t30, w64 (port6 + 1))))
 (some (.inl (bits5, w64 (port6 + 1)))))
 (some (.inr bits5))
def impl_Sends (id0 : Int) (l1 : List Pt) : Option Int :=
 (loop (fun z => impl_Sends_l0 id0 l1 z.1 z.2) (0, 0)).bind fun d =>
 some d
def F_impl_Sends : Fn := ⟨[.val false cNI false, .val false (.one (.sl cPt)) false], [.val false cNI true], fun a => impl_Sends a.1 a.2⟩
def a_impl_Sends : List (Nat × LoopAnn) := [(0, ⟨⟨[(5, false, [dI]), (6, false, [dI]), (13, false, [.undef]), (14, false, [.undef]), (25, false, [.undef]), (26, false, [.undef])], []⟩,
 ⟨[(5, false, [dI])], []⟩, none⟩)]
theorem m_impl_Sends : Meets Tryz.prog 208 F_impl_Sends := mkM g_173 208 Tryz.f208 a_impl_Sends F_impl_Sends Tryz.func208 (by kernel_rfl) (by kernel_rfl) (by kernel_rfl)
def fns_208 : List (FuncId × Fn) := (208, F_impl_Sends) :: fns_173
theorem g_208 : Good Tryz.prog ⟨tis, fns_208, [], false⟩ := g_173.cons m_impl_Sends
def impl_hasPort (bits0 : Int) (port1 : Int) : Option Bool :=
 (impl_in port1 0 62).bind fun t6 =>
 (cond t6
 ((shr .i64 bits0 port1).bind fun t10 =>
 some ((band .i64 t10 1) == 1))
 (some false)).bind fun t13 =>
 some t13
def F_impl_hasPort : Fn := ⟨[.val false cNI false, .val false cNI false], [.val false cNB true], fun a => impl_hasPort a.1 a.2⟩
theorem m_impl_hasPort : Meets Tryz.prog 209 F_impl_hasPort := mkM g_208 209 Tryz.f209 [] F_impl_hasPort Tryz.func209 (by kernel_rfl) (by kernel_rfl) (by kernel_rfl)
def fns_209 : List (FuncId × Fn) := (209, F_impl_hasPort) :: fns_208
theorem g_209 : Good Tryz.prog ⟨tis, fns_209, [], false⟩ := g_208.cons m_impl_hasPort
def impl_FlushPort_l0 (l0 : List Fent) (port1 : Int) (t10 : Int) (out5 : List Fent) : Option ((Int × List Fent) ⊕ (List Fent)) :=
 cond (decide (t10 < (l0.length : Int)))
 ((at? l0 t10).bind fun x12 =>
 (cond x12.2.2.2.2 (some true) (some (x12.2.2.1 != port1))).bind fun t21 =>
 cond t21
 ((app out5 [x12]).bind fun zs25 =>
 some (.inl (w64 (t10 + 1), zs25)))
 (some (.inl (w64 (t10 + 1), out5))))
 (some (.inr out5))
def impl_FlushPort (l0 : List Fent) (port1 : Int) : Option (List Fent) :=
 (loop (fun z => impl_FlushPort_l0 l0 port1 z.1 z.2) (0, [])).bind fun d =>
 some d
def F_impl_FlushPort : Fn := ⟨[.val false (.one (.sl cFent)) false, .val false cNI false], [.val false (.one (.sl cFent)) true], fun a => impl_FlushPort a.1 a.2⟩
def a_impl_FlushPort : List (Nat × LoopAnn) := [(0, ⟨⟨(5, false, [.own 1000000000]) :: (10, false, [dI]) :: us 17 4 [], [(1000000000, .root cFent true)]⟩,
 ⟨[(5, false, [.own 1000000300])], [(1000000300, .root cFent true)]⟩, none⟩)]
theorem m_impl_FlushPort : Meets Tryz.prog 210 F_impl_FlushPort := mkM g_209 210 Tryz.f210 a_impl_FlushPort F_impl_FlushPort Tryz.func210 (by kernel_rfl) (by kernel_rfl) (by kernel_rfl)
def fns_210 : List (FuncId × Fn) := (210, F_impl_FlushPort) :: fns_209
theorem g_210 : Good Tryz.prog ⟨tis, fns_210, [], false⟩ := g_209.cons m_impl_FlushPort
def impl_Bridge_turn_l0 (b0 : Bridge) (t20 : Int) (t26 : Int) (b0_1 : Int) (b1 : List UInt8) (b6 : Int) (b7 : Int) (b8 : Int) (b9 : Int) (b10 : Int) (b3 : List Fent) : Option ((Int × Int × List UInt8 × Int × Int × Int × Int × Int × List Fent) ⊕ (Int × List UInt8 × Int × Int × Int × Int × Int × List Fent)) :=
 cond (decide (t26 < (b0.2.2.1.length : Int)))
 ((impl_hasPort t20 t26).bind fun t31 =>
 cond (!t31)
 ((impl_FlushPort b3 t26).bind fun t39 =>
 some (.inl (w64 (t26 + 1), b0_1, b1, b6, b7, b8, b9, b10, t39)))
 (some (.inl (w64 (t26 + 1), b0_1, b1, b6, b7, b8, b9, b10, b3))))
 (some (.inr (b0_1, b1, b6, b7, b8, b9, b10, b3)))
def impl_Bridge_turn (b0 : Bridge) : Option Bridge :=
 (impl_more b0.2.2.2.2.2.2.2.2.2.2).bind fun t9 =>
 (impl_Sends b0.1 b0.2.2.1).bind fun t20 =>
 (loop (fun z => impl_Bridge_turn_l0 b0 t20 z.1 z.2.1 z.2.2.1 z.2.2.2.1 z.2.2.2.2.1 z.2.2.2.2.2.1 z.2.2.2.2.2.2.1 z.2.2.2.2.2.2.2.1 z.2.2.2.2.2.2.2.2) (0, b0.1, b0.2.1, b0.2.2.2.2.2.2.1, b0.2.2.2.2.2.2.2.1, b0.2.2.2.2.2.2.2.2.1, b0.2.2.2.2.2.2.2.2.2.1, t9, b0.2.2.2.1)).bind fun d =>
 some (d.1, d.2.1, b0.2.2.1, d.2.2.2.2.2.2.2, b0.2.2.2.2.1, b0.2.2.2.2.2.1, d.2.2.1, d.2.2.2.1, d.2.2.2.2.1, d.2.2.2.2.2.1, d.2.2.2.2.2.2.1)
def F_impl_Bridge_turn : Fn := ⟨[.ptr cBridge true], [], fun a => impl_Bridge_turn a⟩
def a_impl_Bridge_turn : List (Nat × LoopAnn) := [(0, ⟨⟨[(26, false, [dI])], [(1, .box [dI, dS, .same 4, .own 1000000000, .same 6, .same 7, dI, dI, dI, dI, dI]), (1000000000, .root cFent true)]⟩,
 ⟨[], [(1, .box [dI, dS, .same 4, .own 1000000300, .same 6, .same 7, dI, dI, dI, dI, dI]), (1000000300, .root cFent true)]⟩, none⟩)]
theorem m_impl_Bridge_turn : Meets Tryz.prog 92 F_impl_Bridge_turn := mkM g_210 92 Tryz.f92 a_impl_Bridge_turn F_impl_Bridge_turn Tryz.func92 (by kernel_rfl) (by kernel_rfl) (by kernel_rfl)
def fns_92 : List (FuncId × Fn) := (92, F_impl_Bridge_turn) :: fns_210
theorem g_92 : Good Tryz.prog ⟨tis, fns_92, [], false⟩ := g_210.cons m_impl_Bridge_turn
def impl_SetAll_l2 (p0 : Bridge) (t25 : Int) (x28 : Bind) (t32 : List Bind) (t34 : Int) (b0_2 : Int) (b1_2 : List UInt8) (b6_2 : Int) (b7_2 : Int) (b8_2 : Int) (b9_2 : Int) (b10_2 : Int) : Option ((Int × Int × List UInt8 × Int × Int × Int × Int × Int) ⊕ ((Int × List UInt8 × Int × Int × Int × Int × Int) ⊕ (Int × Int × Int × List UInt8 × Int × Int × Int × Int × Int × List Pt × List Fent × List Vrow × List Int))) :=
 cond (decide (t34 < (t32.length : Int)))
 ((at? t32 t34).bind fun x36 =>
 (impl_SameOid x28.1 x36.1).bind fun t42 =>
 cond t42
 ((impl_copyBridge p0).bind fun t44 =>
 some (.inr (.inr (5, w64 (t25 + 1), t44.1, t44.2.1, t44.2.2.2.2.2.2.1, t44.2.2.2.2.2.2.2.1, t44.2.2.2.2.2.2.2.2.1, t44.2.2.2.2.2.2.2.2.2.1, t44.2.2.2.2.2.2.2.2.2.2, t44.2.2.1, t44.2.2.2.1, t44.2.2.2.2.1, t44.2.2.2.2.2.1))))
 (some (.inl (w64 (t34 + 1), b0_2, b1_2, b6_2, b7_2, b8_2, b9_2, b10_2))))
 (some (.inr (.inl (b0_2, b1_2, b6_2, b7_2, b8_2, b9_2, b10_2))))
def impl_SetAll_l0 (p0 : Bridge) (i1 : List Bind) (t25 : Int) (b0 : Int) (b1 : List UInt8) (b6 : Int) (b7 : Int) (b8 : Int) (b9 : Int) (b10 : Int) (b0_1 : Int) (b1_1 : List UInt8) (b6_1 : Int) (b7_1 : Int) (b8_1 : Int) (b9_1 : Int) (b10_1 : Int) (b2 : List Pt) (b3 : List Fent) (b4 : List Vrow) (b5 : List Int) (b2_1 : List Pt) (b3_1 : List Fent) (b4_1 : List Vrow) (b5_1 : List Int) : Option ((Int × Int × List UInt8 × Int × Int × Int × Int × Int × Int × List UInt8 × Int × Int × Int × Int × Int × List Pt × List Fent × List Vrow × List Int × List Pt × List Fent × List Vrow × List Int) ⊕ ((Int × List UInt8 × Int × Int × Int × Int × Int × Int × List UInt8 × Int × Int × Int × Int × Int × List Pt × List Fent × List Vrow × List Int × List Pt × List Fent × List Vrow × List Int) ⊕ (Int × Int × Int × List UInt8 × Int × Int × Int × Int × Int × List Pt × List Fent × List Vrow × List Int))) :=
 cond (decide (t25 < (i1.length : Int)))
 ((at? i1 t25).bind fun x28 =>
 (cut i1 0 t25).bind fun t32 =>
 (loop (fun z => impl_SetAll_l2 p0 t25 x28 t32 z.1 z.2.1 z.2.2.1 z.2.2.2.1 z.2.2.2.2.1 z.2.2.2.2.2.1 z.2.2.2.2.2.2.1 z.2.2.2.2.2.2.2) (0, b0, b1, b6, b7, b8, b9, b10)).bind (Sum.elim (fun d =>
 (impl_Bridge_set (b0_1, b1_1, b2_1, b3_1, b4_1, b5_1, b6_1, b7_1, b8_1, b9_1, b10_1) x28).bind fun t49 =>
 cond (t49.2 != 0)
 ((impl_copyBridge p0).bind fun t53 =>
 some (.inr (.inr (t49.2, w64 (t25 + 1), t53.1, t53.2.1, t53.2.2.2.2.2.2.1, t53.2.2.2.2.2.2.2.1, t53.2.2.2.2.2.2.2.2.1, t53.2.2.2.2.2.2.2.2.2.1, t53.2.2.2.2.2.2.2.2.2.2, t53.2.2.1, t53.2.2.2.1, t53.2.2.2.2.1, t53.2.2.2.2.2.1))))
 (some (.inl (w64 (t25 + 1), d.1, d.2.1, d.2.2.1, d.2.2.2.1, d.2.2.2.2.1, d.2.2.2.2.2.1, d.2.2.2.2.2.2, t49.1.1, t49.1.2.1, t49.1.2.2.2.2.2.2.1, t49.1.2.2.2.2.2.2.2.1, t49.1.2.2.2.2.2.2.2.2.1, t49.1.2.2.2.2.2.2.2.2.2.1, t49.1.2.2.2.2.2.2.2.2.2.2, b2, b3, b4, b5, t49.1.2.2.1, t49.1.2.2.2.1, t49.1.2.2.2.2.1, t49.1.2.2.2.2.2.1)))) (fun r => some (.inr (.inr r)))))
 (some (.inr (.inl (b0, b1, b6, b7, b8, b9, b10, b0_1, b1_1, b6_1, b7_1, b8_1, b9_1, b10_1, b2, b3, b4, b5, b2_1, b3_1, b4_1, b5_1))))
def impl_SetAll (p0 : Bridge) (i1 : List Bind) : Option (Bridge × Int × Int) :=
 (impl_copyBridge p0).bind fun t14 =>
 cond ((i1.length : Int) == 0)
 (some (t14, 0, 0))
 ((impl_BridgeOk p0).bind fun t20 =>
 cond (!t20)
 (some (t14, 3, 1))
 ((loop (fun z => impl_SetAll_l0 p0 i1 z.1 z.2.1 z.2.2.1 z.2.2.2.1 z.2.2.2.2.1 z.2.2.2.2.2.1 z.2.2.2.2.2.2.1 z.2.2.2.2.2.2.2.1 z.2.2.2.2.2.2.2.2.1 z.2.2.2.2.2.2.2.2.2.1 z.2.2.2.2.2.2.2.2.2.2.1 z.2.2.2.2.2.2.2.2.2.2.2.1 z.2.2.2.2.2.2.2.2.2.2.2.2.1 z.2.2.2.2.2.2.2.2.2.2.2.2.2.1 z.2.2.2.2.2.2.2.2.2.2.2.2.2.2.1 z.2.2.2.2.2.2.2.2.2.2.2.2.2.2.2.1 z.2.2.2.2.2.2.2.2.2.2.2.2.2.2.2.2.1 z.2.2.2.2.2.2.2.2.2.2.2.2.2.2.2.2.2.1 z.2.2.2.2.2.2.2.2.2.2.2.2.2.2.2.2.2.2.1 z.2.2.2.2.2.2.2.2.2.2.2.2.2.2.2.2.2.2.2.1 z.2.2.2.2.2.2.2.2.2.2.2.2.2.2.2.2.2.2.2.2.1 z.2.2.2.2.2.2.2.2.2.2.2.2.2.2.2.2.2.2.2.2.2.1 z.2.2.2.2.2.2.2.2.2.2.2.2.2.2.2.2.2.2.2.2.2.2) (0, 0, [], 0, 0, 0, 0, 0, t14.1, t14.2.1, t14.2.2.2.2.2.2.1, t14.2.2.2.2.2.2.2.1, t14.2.2.2.2.2.2.2.2.1, t14.2.2.2.2.2.2.2.2.2.1, t14.2.2.2.2.2.2.2.2.2.2, [], [], [], [], t14.2.2.1, t14.2.2.2.1, t14.2.2.2.2.1, t14.2.2.2.2.2.1)).bind (Sum.elim (fun d_1 =>
 (impl_VtabOk d_1.2.2.2.2.2.2.2.2.2.2.2.2.2.2.2.2.2.2.2.2 (d_1.2.2.2.2.2.2.2.2.2.2.2.2.2.2.2.2.2.2.1.length : Int)).bind fun t63 =>
 cond (!t63)
 ((impl_copyBridge p0).bind fun t66 =>
 some (t66, 5, (i1.length : Int)))
 ((impl_Bridge_turn (d_1.2.2.2.2.2.2.2.1, d_1.2.2.2.2.2.2.2.2.1, d_1.2.2.2.2.2.2.2.2.2.2.2.2.2.2.2.2.2.2.1, d_1.2.2.2.2.2.2.2.2.2.2.2.2.2.2.2.2.2.2.2.1, d_1.2.2.2.2.2.2.2.2.2.2.2.2.2.2.2.2.2.2.2.2.1, d_1.2.2.2.2.2.2.2.2.2.2.2.2.2.2.2.2.2.2.2.2.2, d_1.2.2.2.2.2.2.2.2.2.1, d_1.2.2.2.2.2.2.2.2.2.2.1, d_1.2.2.2.2.2.2.2.2.2.2.2.1, d_1.2.2.2.2.2.2.2.2.2.2.2.2.1, d_1.2.2.2.2.2.2.2.2.2.2.2.2.2.1)).bind fun t69 =>
 some (t69, 0, 0))) (fun r_1 => some ((r_1.2.2.1, r_1.2.2.2.1, r_1.2.2.2.2.2.2.2.2.2.1, r_1.2.2.2.2.2.2.2.2.2.2.1, r_1.2.2.2.2.2.2.2.2.2.2.2.1, r_1.2.2.2.2.2.2.2.2.2.2.2.2, r_1.2.2.2.2.1, r_1.2.2.2.2.2.1, r_1.2.2.2.2.2.2.1, r_1.2.2.2.2.2.2.2.1, r_1.2.2.2.2.2.2.2.2.1), r_1.1, r_1.2.1)))))
def F_impl_SetAll : Fn := ⟨[.val true cBridge false, .val false (.one (.sl cBind)) false], [.val true cBridge true, .val false cNI true, .val false cNI true], fun a => impl_SetAll a.1 a.2⟩
def a_impl_SetAll : List (Nat × LoopAnn) := [(0, ⟨⟨[(25, false, [dI])], [(2048, .box [dI, dS, .own 1000000000, .own 1000000001, .own 1000000002, .own 1000000003, dI, dI, dI, dI, dI]), (265216, .box [dI, dS, .own 1000000004, .own 1000000005, .own 1000000006, .own 1000000007, dI, dI, dI, dI, dI]), (1000000000, .root cPt true), (1000000001, .root cFent true), (1000000002, .root cVrow true), (1000000003, .root cNI true), (1000000004, .root cPt true), (1000000005, .root cFent true), (1000000006, .root cVrow true), (1000000007, .root cNI true)]⟩,
 ⟨[], [(2048, .box [dI, dS, .own 1000000300, .own 1000000301, .own 1000000302, .own 1000000303, dI, dI, dI, dI, dI]), (265216, .box [dI, dS, .own 1000000304, .own 1000000305, .own 1000000306, .own 1000000307, dI, dI, dI, dI, dI]), (1000000300, .root cPt true), (1000000301, .root cFent true), (1000000302, .root cVrow true), (1000000303, .root cNI true), (1000000304, .root cPt true), (1000000305, .root cFent true), (1000000306, .root cVrow true), (1000000307, .root cNI true)]⟩, some ⟨[(5, false, [dI]), (6, false, [dI])], [(2048, .box [dI, dS, .own 1000000600, .own 1000000601, .own 1000000602, .own 1000000603, dI, dI, dI, dI, dI]), (1000000600, .root cPt true), (1000000601, .root cFent true), (1000000602, .root cVrow true), (1000000603, .root cNI true)]⟩⟩),
 (2, ⟨⟨[(34, false, [dI])], [(2048, .box [dI, dS, .same 1000000000, .same 1000000001, .same 1000000002, .same 1000000003, dI, dI, dI, dI, dI])]⟩,
 ⟨[], [(2048, .box [dI, dS, .same 1000000000, .same 1000000001, .same 1000000002, .same 1000000003, dI, dI, dI, dI, dI])]⟩, some ⟨[(5, false, [dI]), (6, false, [dI])], [(2048, .box [dI, dS, .own 1000002600, .own 1000002601, .own 1000002602, .own 1000002603, dI, dI, dI, dI, dI]), (1000002600, .root cPt true), (1000002601, .root cFent true), (1000002602, .root cVrow true), (1000002603, .root cNI true)]⟩⟩)]
theorem m_impl_SetAll : Meets Tryz.prog 24 F_impl_SetAll := mkM g_92 24 Tryz.f24 a_impl_SetAll F_impl_SetAll Tryz.func24 (by kernel_rfl) (by kernel_rfl) (by kernel_rfl)
def fns_24 : List (FuncId × Fn) := (24, F_impl_SetAll) :: fns_92
theorem g_24 : Good Tryz.prog ⟨tis, fns_24, [], false⟩ := g_92.cons m_impl_SetAll
def spec_l11Copy (b0 : Bridge) : Option Bridge :=
 (app ([] : List Pt) b0.2.2.1).bind fun zs8 =>
 (spec_l8Copy b0.2.2.2.1).bind fun t12 =>
 (spec_l9Copy (b0.2.2.2.2.1, b0.2.2.2.2.2.1)).bind fun t16 =>
 some (b0.1, b0.2.1, zs8, t12, t16.1, t16.2, b0.2.2.2.2.2.2.1, b0.2.2.2.2.2.2.2.1, b0.2.2.2.2.2.2.2.2.1, b0.2.2.2.2.2.2.2.2.2.1, b0.2.2.2.2.2.2.2.2.2.2)
def F_spec_l11Copy : Fn := ⟨[.val true cBridge false], [.val true cBridge true], fun a => spec_l11Copy a⟩
theorem m_spec_l11Copy : Meets Tryz.prog 93 F_spec_l11Copy := mkM g_24 93 Tryz.f93 [] F_spec_l11Copy Tryz.func93 (by kernel_rfl) (by kernel_rfl) (by kernel_rfl)
def fns_93 : List (FuncId × Fn) := (93, F_spec_l11Copy) :: fns_24
theorem g_93 : Good Tryz.prog ⟨tis, fns_93, [], false⟩ := g_24.cons m_spec_l11Copy
def spec_SameOid_l0 (a0 : List Int) (b1 : List Int) (i5 : Int) : Option (Int ⊕ (Unit ⊕ Bool)) :=
 cond (decide (i5 < (a0.length : Int)))
 ((at? a0 i5).bind fun x19 =>
 (at? b1 i5).bind fun x23 =>
 cond (x19 != x23) (some (.inr (.inr false))) (some (.inl (w64 (i5 + 1)))))
 (some (.inr (.inl ())))
def spec_SameOid (a0 : List Int) (b1 : List Int) : Option Bool :=
 cond ((a0.length : Int) != (b1.length : Int))
 (some false)
 ((loop (fun z => spec_SameOid_l0 a0 b1 z) 0).bind (Sum.elim (fun d =>
 some true) (fun r => some r)))
def F_spec_SameOid : Fn := ⟨[.val false cNN false, .val false cNN false], [.val false cNB true], fun a => spec_SameOid a.1 a.2⟩
def a_spec_SameOid : List (Nat × LoopAnn) := [(0, ⟨⟨[(5, false, [dI])], []⟩,
 ⟨[], []⟩, some ⟨[(4, false, [dB])], []⟩⟩)]
theorem m_spec_SameOid : Meets Tryz.prog 95 F_spec_SameOid := mkM g_93 95 Tryz.f95 a_spec_SameOid F_spec_SameOid Tryz.func95 (by kernel_rfl) (by kernel_rfl) (by kernel_rfl)
def fns_95 : List (FuncId × Fn) := (95, F_spec_SameOid) :: fns_93
theorem g_95 : Good Tryz.prog ⟨tis, fns_95, [], false⟩ := g_93.cons m_spec_SameOid
def spec_Below (o0 : List Int) (head1 : List Int) : Option Bool :=
 (cond (decide ((o0.length : Int) > (head1.length : Int)))
 ((cut o0 0 (head1.length : Int)).bind fun t14 =>
 (spec_SameOid t14 head1).bind fun t16 =>
 some t16)
 (some false)).bind fun t17 =>
 some t17
def F_spec_Below : Fn := ⟨[.val false cNN false, .val false cNN false], [.val false cNB true], fun a => spec_Below a.1 a.2⟩
theorem m_spec_Below : Meets Tryz.prog 355 F_spec_Below := mkM g_95 355 Tryz.f355 [] F_spec_Below Tryz.func355 (by kernel_rfl) (by kernel_rfl) (by kernel_rfl)
def fns_355 : List (FuncId × Fn) := (355, F_spec_Below) :: fns_95
theorem g_355 : Good Tryz.prog ⟨tis, fns_355, [], false⟩ := g_95.cons m_spec_Below
def spec_l18Below (o0 : List Int) : Option ((List Int) × Bool) :=
 (spec_Below o0 ([1, 3, 1] : List Int)).bind fun t6 =>
 cond (!t6)
 (some (([] : List Int), false))
 ((cut o0 3 (o0.length : Int)).bind fun t10 =>
 some (t10, true))
def F_spec_l18Below : Fn := ⟨[.val false cNN false], [.val false cNN false, .val false cNB true], fun a => spec_l18Below a⟩
theorem m_spec_l18Below : Meets Tryz.prog 311 F_spec_l18Below := mkM g_355 311 Tryz.f311 [] F_spec_l18Below Tryz.func311 (by kernel_rfl) (by kernel_rfl) (by kernel_rfl)
def fns_311 : List (FuncId × Fn) := (311, F_spec_l18Below) :: fns_355
theorem g_311 : Good Tryz.prog ⟨tis, fns_311, [], false⟩ := g_355.cons m_spec_l18Below
def spec_l18May (p0 : Bridge) (i1 : List Int) : Option Bool :=
 (spec_l18Below i1).bind fun t9 =>
 cond (!t9.2)
 (some false)
 (cond ((t9.1.length : Int) == 2)
 ((at? t9.1 0).bind fun x18 =>
 (cond (x18 == 1)
 ((at? t9.1 1).bind fun x23 =>
 some (x23 == 1))
 (some false)).bind fun t26 =>
 some t26)
 (cond ((t9.1.length : Int) != 3)
 (some false)
 ((at? t9.1 0).bind fun x31 =>
 cond (x31 == 2)
 ((at? t9.1 1).bind fun x36 =>
 (cond (x36 == 2)
 (some true)
 ((at? t9.1 1).bind fun x41 =>
 some (x41 == 4))).bind fun t44 =>
 (cond t44
 ((at? t9.1 2).bind fun x47 =>
 (spec_l1In x47 1 (p0.2.2.1.length : Int)).bind fun t52 =>
 some t52)
 (some false)).bind fun t53 =>
 some t53)
 (cond (x31 == 3)
 ((at? t9.1 1).bind fun x57 =>
 (cond (x57 == 1)
 ((at? t9.1 2).bind fun x62 =>
 (spec_l1In x62 1 99).bind fun t64 =>
 some t64)
 (some false)).bind fun t65 =>
 (cond t65
 (some true)
 ((at? t9.1 1).bind fun x68 =>
 (cond (x68 == 2)
 (some true)
 ((at? t9.1 1).bind fun x73 =>
 some (x73 == 3))).bind fun t76 =>
 (cond t76
 ((at? t9.1 2).bind fun x81 =>
 (spec_RowAt (p0.2.2.2.2.1, p0.2.2.2.2.2.1) x81).bind fun t83 =>
 some (decide (t83 ≥ 0)))
 (some false)).bind fun t85 =>
 some t85)).bind fun t86 =>
 some t86)
 (some false)))))
def F_spec_l18May : Fn := ⟨[.val true cBridge false, .val false cNN false], [.val false cNB true], fun a => spec_l18May a.1 a.2⟩
theorem m_spec_l18May : Meets Tryz.prog 216 F_spec_l18May := mkM g_311 216 Tryz.f216 [] F_spec_l18May Tryz.func216 (by kernel_rfl) (by kernel_rfl) (by kernel_rfl)
def fns_216 : List (FuncId × Fn) := (216, F_spec_l18May) :: fns_311
theorem g_216 : Good Tryz.prog ⟨tis, fns_216, [], false⟩ := g_311.cons m_spec_l18May
def spec_l18Seen (p0 : Bridge) (i1 : List Int) : Option Bool :=
 (spec_l18Below i1).bind fun t9 =>
 cond (!t9.2)
 (some false)
 (cond ((t9.1.length : Int) == 2)
 ((at? t9.1 0).bind fun x19 =>
 (cond (x19 == 1)
 ((at? t9.1 1).bind fun x24 =>
 (spec_l1In x24 2 5).bind fun t26 =>
 some t26)
 (some false)).bind fun t27 =>
 some t27)
 (cond ((t9.1.length : Int) == 3)
 ((at? t9.1 0).bind fun x31 =>
 (cond (x31 == 2)
 ((at? t9.1 1).bind fun x36 =>
 (cond (x36 == 1)
 (some true)
 ((at? t9.1 1).bind fun x41 =>
 some (x41 == 3))).bind fun t44 =>
 some t44)
 (some false)).bind fun t45 =>
 (cond t45
 ((at? t9.1 2).bind fun x48 =>
 (spec_l1In x48 1 (p0.2.2.1.length : Int)).bind fun t53 =>
 some t53)
 (some false)).bind fun t54 =>
 some t54)
 (cond ((t9.1.length : Int) == 4)
 ((at? t9.1 0).bind fun x58 =>
 (cond (x58 == 4)
 ((at? t9.1 1).bind fun x63 =>
 some (x63 == 1))
 (some false)).bind fun t66 =>
 (cond t66
 ((at? t9.1 2).bind fun x71 =>
 (at? t9.1 3).bind fun x74 =>
 (spec_l8At p0.2.2.2.1 x71 x74).bind fun t76 =>
 some (decide (t76 ≥ 0)))
 (some false)).bind fun t78 =>
 some t78)
 (some false))))
def F_spec_l18Seen : Fn := ⟨[.val true cBridge false, .val false cNN false], [.val false cNB true], fun a => spec_l18Seen a.1 a.2⟩
theorem m_spec_l18Seen : Meets Tryz.prog 217 F_spec_l18Seen := mkM g_216 217 Tryz.f217 [] F_spec_l18Seen Tryz.func217 (by kernel_rfl) (by kernel_rfl) (by kernel_rfl)
def fns_217 : List (FuncId × Fn) := (217, F_spec_l18Seen) :: fns_216
theorem g_217 : Good Tryz.prog ⟨tis, fns_217, [], false⟩ := g_216.cons m_spec_l18Seen
def spec_l18Port (b0 : Bridge) (c1 : Int) (p2 : Int) (n3 : Int) : Option (Bridge × Int) :=
 cond (c1 == 2)
 ((spec_l1In n3 1 1000).bind fun t13 =>
 cond (!t13)
 (some (b0, 2))
 ((ix b0.2.2.1.length p2).bind fun j20 =>
 (b0.2.2.1[j20]?).bind fun x =>
 some ((b0.1, b0.2.1, b0.2.2.1.set j20 (x.1, n3, x.2.2.1, x.2.2.2.1, x.2.2.2.2.1, x.2.2.2.2.2.1, x.2.2.2.2.2.2.1, x.2.2.2.2.2.2.2), b0.2.2.2.1, b0.2.2.2.2.1, b0.2.2.2.2.2.1, b0.2.2.2.2.2.2.1, b0.2.2.2.2.2.2.2.1, b0.2.2.2.2.2.2.2.2.1, b0.2.2.2.2.2.2.2.2.2.1, b0.2.2.2.2.2.2.2.2.2.2), 0)))
 ((ix b0.2.2.2.2.2.1.length p2).bind fun j28 =>
 (b0.2.2.2.2.2.1[j28]?).bind fun x_1 =>
 some ((b0.1, b0.2.1, b0.2.2.1, b0.2.2.2.1, b0.2.2.2.2.1, b0.2.2.2.2.2.1.set j28 n3, b0.2.2.2.2.2.2.1, b0.2.2.2.2.2.2.2.1, b0.2.2.2.2.2.2.2.2.1, b0.2.2.2.2.2.2.2.2.2.1, b0.2.2.2.2.2.2.2.2.2.2), 0))
def F_spec_l18Port : Fn := ⟨[.val true cBridge true, .val false cNI false, .val false cNI false, .val false cNI false], [.val true cBridge true, .val false cNI true], fun a => spec_l18Port a.1 a.2.1 a.2.2.1 a.2.2.2⟩
theorem m_spec_l18Port : Meets Tryz.prog 218 F_spec_l18Port := mkM g_217 218 Tryz.f218 [] F_spec_l18Port Tryz.func218 (by kernel_rfl) (by kernel_rfl) (by kernel_rfl)
def fns_218 : List (FuncId × Fn) := (218, F_spec_l18Port) :: fns_217
theorem g_218 : Good Tryz.prog ⟨tis, fns_218, [], false⟩ := g_217.cons m_spec_l18Port
def spec_l18Status (b0 : Bridge) (id1 : Int) (n2 : Int) : Option (Bridge × Int) :=
 (spec_RowAt (b0.2.2.2.2.1, b0.2.2.2.2.2.1) id1).bind fun t12 =>
 (cond (n2 == 4) (some (decide (t12 < 0))) (some false)).bind fun t19 =>
 (cond t19 (some (decide ((b0.2.2.2.2.1.length : Int) < 6))) (some false)).bind fun t26 =>
 cond t26
 ((spec_l9Row (b0.2.2.2.2.1, b0.2.2.2.2.2.1) (id1, 0, 0)).bind fun t31 =>
 some ((b0.1, b0.2.1, b0.2.2.1, b0.2.2.2.1, t31.1, t31.2, b0.2.2.2.2.2.2.1, b0.2.2.2.2.2.2.2.1, b0.2.2.2.2.2.2.2.2.1, b0.2.2.2.2.2.2.2.2.2.1, b0.2.2.2.2.2.2.2.2.2.2), 0))
 ((cond (n2 == 6) (some (decide (t12 ≥ 0))) (some false)).bind fun t40 =>
 cond t40
 ((cutIx b0.2.2.2.2.1.length 0 t12).bind fun p =>
 (app ([] : List Vrow) ((b0.2.2.2.2.1.take p.2).drop p.1)).bind fun zs47 =>
 (cutIx b0.2.2.2.2.1.length (w64 (t12 + 1)) (b0.2.2.2.2.1.length : Int)).bind fun p_1 =>
 (app zs47 ((b0.2.2.2.2.1.take p_1.2).drop p_1.1)).bind fun zs54 =>
 some ((b0.1, b0.2.1, b0.2.2.1, b0.2.2.2.1, zs54, b0.2.2.2.2.2.1, b0.2.2.2.2.2.2.1, b0.2.2.2.2.2.2.2.1, b0.2.2.2.2.2.2.2.2.1, b0.2.2.2.2.2.2.2.2.2.1, b0.2.2.2.2.2.2.2.2.2.2), 0))
 (some (b0, 2)))
def F_spec_l18Status : Fn := ⟨[.val true cBridge true, .val false cNI false, .val false cNI false], [.val true cBridge true, .val false cNI true], fun a => spec_l18Status a.1 a.2.1 a.2.2⟩
theorem m_spec_l18Status : Meets Tryz.prog 312 F_spec_l18Status := mkM g_218 312 Tryz.f312 [] F_spec_l18Status Tryz.func312 (by kernel_rfl) (by kernel_rfl) (by kernel_rfl)
def fns_312 : List (FuncId × Fn) := (312, F_spec_l18Status) :: fns_218
theorem g_312 : Good Tryz.prog ⟨tis, fns_312, [], false⟩ := g_218.cons m_spec_l18Status
def spec_l18Row (b0 : Bridge) (c1 : Int) (id2 : Int) (n3 : Int) : Option (Bridge × Int) :=
 cond (c1 == 1)
 ((spec_l18Status b0 id2 n3).bind fun t16 =>
 some t16)
 ((shl .i64 1 (IntKind.u64.wrap ((b0.2.2.1.length : Int)))).bind fun t24 =>
 (spec_l1In n3 0 (w64 (t24 - 1))).bind fun t26 =>
 cond (!t26)
 (some (b0, 2))
 ((spec_RowAt (b0.2.2.2.2.1, b0.2.2.2.2.2.1) id2).bind fun t35 =>
 (ix b0.2.2.2.2.1.length t35).bind fun j36 =>
 (b0.2.2.2.2.1[j36]?).bind fun x37 =>
 cond (c1 == 2)
 ((spec_l9Row (b0.2.2.2.2.1, b0.2.2.2.2.2.1) (x37.1, n3, x37.2.2)).bind fun t47 =>
 some ((b0.1, b0.2.1, b0.2.2.1, b0.2.2.2.1, t47.1, t47.2, b0.2.2.2.2.2.2.1, b0.2.2.2.2.2.2.2.1, b0.2.2.2.2.2.2.2.2.1, b0.2.2.2.2.2.2.2.2.2.1, b0.2.2.2.2.2.2.2.2.2.2), 0))
 ((spec_l9Row (b0.2.2.2.2.1, b0.2.2.2.2.2.1) (x37.1, x37.2.1, n3)).bind fun t47_1 =>
 some ((b0.1, b0.2.1, b0.2.2.1, b0.2.2.2.1, t47_1.1, t47_1.2, b0.2.2.2.2.2.2.1, b0.2.2.2.2.2.2.2.1, b0.2.2.2.2.2.2.2.2.1, b0.2.2.2.2.2.2.2.2.2.1, b0.2.2.2.2.2.2.2.2.2.2), 0))))
def F_spec_l18Row : Fn := ⟨[.val true cBridge true, .val false cNI false, .val false cNI false, .val false cNI false], [.val true cBridge true, .val false cNI true], fun a => spec_l18Row a.1 a.2.1 a.2.2.1 a.2.2.2⟩
theorem m_spec_l18Row : Meets Tryz.prog 219 F_spec_l18Row := mkM g_312 219 Tryz.f219 [] F_spec_l18Row Tryz.func219 (by kernel_rfl) (by kernel_rfl) (by kernel_rfl)
def fns_219 : List (FuncId × Fn) := (219, F_spec_l18Row) :: fns_312
theorem g_219 : Good Tryz.prog ⟨tis, fns_219, [], false⟩ := g_312.cons m_spec_l18Row
def spec_l18One (p0 : Bridge) (i1 : Bind) : Option (Bridge × Int) :=
 (spec_l11Copy p0).bind fun t9 =>
 (spec_l18May p0 i1.1).bind fun t13 =>
 cond (!t13)
 ((spec_l18Seen p0 i1.1).bind fun t18 =>
 cond t18 (some (t9, 4)) (some (t9, 3)))
 ((cut i1.1 3 (i1.1.length : Int)).bind fun t23 =>
 (at? t23 0).bind fun x25 =>
 cond (x25 == 1)
 (cond (i1.2.1 != 4)
 (some (t9, 1))
 (let t34 := decide ((i1.2.2.2.1.length : Int) > 10)
 cond t34
 (some (t9, 2))
 (some ((t9.1, i1.2.2.2.1, t9.2.2.1, t9.2.2.2.1, t9.2.2.2.2.1, t9.2.2.2.2.2.1, t9.2.2.2.2.2.2.1, t9.2.2.2.2.2.2.2.1, t9.2.2.2.2.2.2.2.2.1, t9.2.2.2.2.2.2.2.2.2.1, t9.2.2.2.2.2.2.2.2.2.2), 0))))
 (cond (i1.2.1 != 2)
 (some (t9, 1))
 ((at? t23 0).bind fun x52 =>
 cond (x52 == 2)
 ((at? t23 1).bind fun x57 =>
 (at? t23 2).bind fun x60 =>
 (spec_l18Port t9 x57 (w64 (x60 - 1)) i1.2.2.1).bind fun t66 =>
 some t66)
 ((at? t23 1).bind fun x71 =>
 (at? t23 2).bind fun x74 =>
 (spec_l18Row t9 x71 x74 i1.2.2.1).bind fun t79 =>
 some t79))))
def F_spec_l18One : Fn := ⟨[.val true cBridge false, .val true cBind false], [.val true cBridge true, .val false cNI true], fun a => spec_l18One a.1 a.2⟩
theorem m_spec_l18One : Meets Tryz.prog 96 F_spec_l18One := mkM g_219 96 Tryz.f96 [] F_spec_l18One Tryz.func96 (by kernel_rfl) (by kernel_rfl) (by kernel_rfl)
def fns_96 : List (FuncId × Fn) := (96, F_spec_l18One) :: fns_219
theorem g_96 : Good Tryz.prog ⟨tis, fns_96, [], false⟩ := g_219.cons m_spec_l18One
def spec_l11One (n0 : Int) : Option Int :=
 cond (decide (n0 ≥ 1000000)) (some n0) (some (w64 (n0 + 1)))
def F_spec_l11One : Fn := ⟨[.val false cNI false], [.val false cNI true], fun a => spec_l11One a⟩
theorem m_spec_l11One : Meets Tryz.prog 156 F_spec_l11One := mkM g_96 156 Tryz.f156 [] F_spec_l11One Tryz.func156 (by kernel_rfl) (by kernel_rfl) (by kernel_rfl)
def fns_156 : List (FuncId × Fn) := (156, F_spec_l11One) :: fns_96
theorem g_156 : Good Tryz.prog ⟨tis, fns_156, [], false⟩ := g_96.cons m_spec_l11One
def spec_Sends_l0 (id0 : Int) (l1 : List Pt) (n5 : Int) (i6 : Int) : Option ((Int × Int) ⊕ Int) :=
 (cond (decide (i6 < (l1.length : Int))) (some (decide (i6 < 6))) (some false)).bind fun t14 =>
 cond t14
 ((spec_RoleOf id0 l1 i6).bind fun t20 =>
 cond (decide (t20 ≤ 2))
 ((shl .i64 1 (IntKind.u64.wrap (i6))).bind fun t25 =>
 some (.inl (bor .i64 n5 t25, w64 (i6 + 1))))
 (some (.inl (n5, w64 (i6 + 1)))))
 (some (.inr n5))
def spec_Sends (id0 : Int) (l1 : List Pt) : Option Int :=
 (loop (fun z => spec_Sends_l0 id0 l1 z.1 z.2) (0, 0)).bind fun d =>
 some d
def F_spec_Sends : Fn := ⟨[.val false cNI false, .val false (.one (.sl cPt)) false], [.val false cNI true], fun a => spec_Sends a.1 a.2⟩
def a_spec_Sends : List (Nat × LoopAnn) := [(0, ⟨⟨[(5, false, [dI]), (6, false, [dI]), (12, false, [.undef]), (13, false, [.undef])], []⟩,
 ⟨[(5, false, [dI])], []⟩, none⟩)]
theorem m_spec_Sends : Meets Tryz.prog 221 F_spec_Sends := mkM g_156 221 Tryz.f221 a_spec_Sends F_spec_Sends Tryz.func221 (by kernel_rfl) (by kernel_rfl) (by kernel_rfl)
def fns_221 : List (FuncId × Fn) := (221, F_spec_Sends) :: fns_156
theorem g_221 : Good Tryz.prog ⟨tis, fns_221, [], false⟩ := g_156.cons m_spec_Sends
def spec_l9Bit (n0 : Int) (port1 : Int) : Option Bool :=
 (spec_l1In port1 0 7).bind fun t6 =>
 (cond t6
 ((shr .i64 n0 (IntKind.u64.wrap (port1))).bind fun t11 =>
 some ((band .i64 t11 1) == 1))
 (some false)).bind fun t14 =>
 some t14
def F_spec_l9Bit : Fn := ⟨[.val false cNI false, .val false cNI false], [.val false cNB true], fun a => spec_l9Bit a.1 a.2⟩
theorem m_spec_l9Bit : Meets Tryz.prog 222 F_spec_l9Bit := mkM g_221 222 Tryz.f222 [] F_spec_l9Bit Tryz.func222 (by kernel_rfl) (by kernel_rfl) (by kernel_rfl)
def fns_222 : List (FuncId × Fn) := (222, F_spec_l9Bit) :: fns_221
theorem g_222 : Good Tryz.prog ⟨tis, fns_222, [], false⟩ := g_221.cons m_spec_l9Bit
def spec_FlushPort_l0 (l0 : List Fent) (port1 : Int) (i6 : Int) (out5 : List Fent) : Option ((Int × List Fent) ⊕ (List Fent)) :=
 cond (decide (i6 < (l0.length : Int)))
 ((at? l0 i6).bind fun x16 =>
 (cond x16.2.2.2.2
 (some true)
 ((at? l0 i6).bind fun x22 =>
 some (x22.2.2.1 != port1))).bind fun t27 =>
 cond t27
 ((at? l0 i6).bind fun x31 =>
 (app out5 [x31]).bind fun zs34 =>
 some (.inl (w64 (i6 + 1), zs34)))
 (some (.inl (w64 (i6 + 1), out5))))
 (some (.inr out5))
def spec_FlushPort (l0 : List Fent) (port1 : Int) : Option (List Fent) :=
 (loop (fun z => spec_FlushPort_l0 l0 port1 z.1 z.2) (0, ([] : List Fent))).bind fun d =>
 some d
def F_spec_FlushPort : Fn := ⟨[.val false (.one (.sl cFent)) false, .val false cNI false], [.val false (.one (.sl cFent)) true], fun a => spec_FlushPort a.1 a.2⟩
def a_spec_FlushPort : List (Nat × LoopAnn) := [(0, ⟨⟨(5, false, [.own 1000000000]) :: (6, false, [dI]) :: us 20 7 [], [(1000000000, .root cFent true)]⟩,
 ⟨[(5, false, [.own 1000000300])], [(1000000300, .root cFent true)]⟩, none⟩)]
theorem m_spec_FlushPort : Meets Tryz.prog 223 F_spec_FlushPort := mkM g_222 223 Tryz.f223 a_spec_FlushPort F_spec_FlushPort Tryz.func223 (by kernel_rfl) (by kernel_rfl) (by kernel_rfl)
def fns_223 : List (FuncId × Fn) := (223, F_spec_FlushPort) :: fns_222
theorem g_223 : Good Tryz.prog ⟨tis, fns_223, [], false⟩ := g_222.cons m_spec_FlushPort
def spec_l11Turned_l0 (b0 : Bridge) (t13 : Int) (i4 : Int) (b0_1 : Int) (b1 : List UInt8) (b6 : Int) (b7 : Int) (b8 : Int) (b9 : Int) (b10 : Int) (b3 : List Fent) : Option ((Int × Int × List UInt8 × Int × Int × Int × Int × Int × List Fent) ⊕ (Int × List UInt8 × Int × Int × Int × Int × Int × List Fent)) :=
 cond (decide (i4 < (b0.2.2.1.length : Int)))
 ((spec_l9Bit t13 i4).bind fun t23 =>
 cond (!t23)
 ((spec_FlushPort b3 i4).bind fun t28 =>
 some (.inl (w64 (i4 + 1), b0_1, b1, b6, b7, b8, b9, b10, t28)))
 (some (.inl (w64 (i4 + 1), b0_1, b1, b6, b7, b8, b9, b10, b3))))
 (some (.inr (b0_1, b1, b6, b7, b8, b9, b10, b3)))
def spec_l11Turned (b0 : Bridge) : Option Bridge :=
 (spec_l11One b0.2.2.2.2.2.2.2.2.2.2).bind fun t7 =>
 (spec_Sends b0.1 b0.2.2.1).bind fun t13 =>
 (loop (fun z => spec_l11Turned_l0 b0 t13 z.1 z.2.1 z.2.2.1 z.2.2.2.1 z.2.2.2.2.1 z.2.2.2.2.2.1 z.2.2.2.2.2.2.1 z.2.2.2.2.2.2.2.1 z.2.2.2.2.2.2.2.2) (0, b0.1, b0.2.1, b0.2.2.2.2.2.2.1, b0.2.2.2.2.2.2.2.1, b0.2.2.2.2.2.2.2.2.1, b0.2.2.2.2.2.2.2.2.2.1, t7, b0.2.2.2.1)).bind fun d =>
 some (d.1, d.2.1, b0.2.2.1, d.2.2.2.2.2.2.2, b0.2.2.2.2.1, b0.2.2.2.2.2.1, d.2.2.1, d.2.2.2.1, d.2.2.2.2.1, d.2.2.2.2.2.1, d.2.2.2.2.2.2.1)
def F_spec_l11Turned : Fn := ⟨[.val true cBridge true], [.val true cBridge true], fun a => spec_l11Turned a⟩
def a_spec_l11Turned : List (Nat × LoopAnn) := [(0, ⟨⟨[(4, false, [dI])], [(1024, .box [dI, dS, .same 3, .own 1000000000, .same 5, .same 6, dI, dI, dI, dI, dI]), (1000000000, .root cFent true)]⟩,
 ⟨[], [(1024, .box [dI, dS, .same 3, .own 1000000300, .same 5, .same 6, dI, dI, dI, dI, dI]), (1000000300, .root cFent true)]⟩, none⟩)]
theorem m_spec_l11Turned : Meets Tryz.prog 98 F_spec_l11Turned := mkM g_223 98 Tryz.f98 a_spec_l11Turned F_spec_l11Turned Tryz.func98 (by kernel_rfl) (by kernel_rfl) (by kernel_rfl)
def fns_98 : List (FuncId × Fn) := (98, F_spec_l11Turned) :: fns_223
theorem g_98 : Good Tryz.prog ⟨tis, fns_98, [], false⟩ := g_223.cons m_spec_l11Turned
def spec_SetAll_l2 (p0 : Bridge) (i1 : List Bind) (t8 : Int) (t9 : Int) (b0_2 : Int) (b1_2 : List UInt8) (b6_2 : Int) (b7_2 : Int) (b8_2 : Int) (b9_2 : Int) (b10_2 : Int) : Option ((Int × Int × List UInt8 × Int × Int × Int × Int × Int) ⊕ ((Int × List UInt8 × Int × Int × Int × Int × Int) ⊕ (Int × Int × Int × List UInt8 × Int × Int × Int × Int × Int × List Pt × List Fent × List Vrow × List Int))) :=
 cond (decide (t9 < t8))
 ((at? i1 t9).bind fun x36 =>
 (at? i1 t8).bind fun x41 =>
 (spec_SameOid x36.1 x41.1).bind fun t44 =>
 cond t44
 ((spec_l11Copy p0).bind fun t46 =>
 some (.inr (.inr (5, w64 (t8 + 1), t46.1, t46.2.1, t46.2.2.2.2.2.2.1, t46.2.2.2.2.2.2.2.1, t46.2.2.2.2.2.2.2.2.1, t46.2.2.2.2.2.2.2.2.2.1, t46.2.2.2.2.2.2.2.2.2.2, t46.2.2.1, t46.2.2.2.1, t46.2.2.2.2.1, t46.2.2.2.2.2.1))))
 (some (.inl (w64 (t9 + 1), b0_2, b1_2, b6_2, b7_2, b8_2, b9_2, b10_2))))
 (some (.inr (.inl (b0_2, b1_2, b6_2, b7_2, b8_2, b9_2, b10_2))))
def spec_SetAll_l0 (p0 : Bridge) (i1 : List Bind) (t8 : Int) (b0 : Int) (b1 : List UInt8) (b6 : Int) (b7 : Int) (b8 : Int) (b9 : Int) (b10 : Int) (b0_1 : Int) (b1_1 : List UInt8) (b6_1 : Int) (b7_1 : Int) (b8_1 : Int) (b9_1 : Int) (b10_1 : Int) (b2 : List Pt) (b3 : List Fent) (b4 : List Vrow) (b5 : List Int) (b2_1 : List Pt) (b3_1 : List Fent) (b4_1 : List Vrow) (b5_1 : List Int) : Option ((Int × Int × List UInt8 × Int × Int × Int × Int × Int × Int × List UInt8 × Int × Int × Int × Int × Int × List Pt × List Fent × List Vrow × List Int × List Pt × List Fent × List Vrow × List Int) ⊕ ((Int × List UInt8 × Int × Int × Int × Int × Int × Int × List UInt8 × Int × Int × Int × Int × Int × List Pt × List Fent × List Vrow × List Int × List Pt × List Fent × List Vrow × List Int) ⊕ (Int × Int × Int × List UInt8 × Int × Int × Int × Int × Int × List Pt × List Fent × List Vrow × List Int))) :=
 cond (decide (t8 < (i1.length : Int)))
 ((loop (fun z => spec_SetAll_l2 p0 i1 t8 z.1 z.2.1 z.2.2.1 z.2.2.2.1 z.2.2.2.2.1 z.2.2.2.2.2.1 z.2.2.2.2.2.2.1 z.2.2.2.2.2.2.2) (0, b0, b1, b6, b7, b8, b9, b10)).bind (Sum.elim (fun d =>
 (at? i1 t8).bind fun x53 =>
 (spec_l18One (b0_1, b1_1, b2_1, b3_1, b4_1, b5_1, b6_1, b7_1, b8_1, b9_1, b10_1) x53).bind fun t55 =>
 cond (t55.2 != 0)
 ((spec_l11Copy p0).bind fun t61 =>
 some (.inr (.inr (t55.2, w64 (t8 + 1), t61.1, t61.2.1, t61.2.2.2.2.2.2.1, t61.2.2.2.2.2.2.2.1, t61.2.2.2.2.2.2.2.2.1, t61.2.2.2.2.2.2.2.2.2.1, t61.2.2.2.2.2.2.2.2.2.2, t61.2.2.1, t61.2.2.2.1, t61.2.2.2.2.1, t61.2.2.2.2.2.1))))
 (some (.inl (w64 (t8 + 1), d.1, d.2.1, d.2.2.1, d.2.2.2.1, d.2.2.2.2.1, d.2.2.2.2.2.1, d.2.2.2.2.2.2, t55.1.1, t55.1.2.1, t55.1.2.2.2.2.2.2.1, t55.1.2.2.2.2.2.2.2.1, t55.1.2.2.2.2.2.2.2.2.1, t55.1.2.2.2.2.2.2.2.2.2.1, t55.1.2.2.2.2.2.2.2.2.2.2, b2, b3, b4, b5, t55.1.2.2.1, t55.1.2.2.2.1, t55.1.2.2.2.2.1, t55.1.2.2.2.2.2.1)))) (fun r => some (.inr (.inr r)))))
 (some (.inr (.inl (b0, b1, b6, b7, b8, b9, b10, b0_1, b1_1, b6_1, b7_1, b8_1, b9_1, b10_1, b2, b3, b4, b5, b2_1, b3_1, b4_1, b5_1))))
def spec_SetAll (p0 : Bridge) (i1 : List Bind) : Option (Bridge × Int × Int) :=
 (spec_l11Copy p0).bind fun t13 =>
 (spec_BridgeOk p0).bind fun t15 =>
 (cond (!t15) (some (decide ((i1.length : Int) > 0))) (some false)).bind fun t21 =>
 cond t21
 (some (t13, 3, 1))
 ((loop (fun z => spec_SetAll_l0 p0 i1 z.1 z.2.1 z.2.2.1 z.2.2.2.1 z.2.2.2.2.1 z.2.2.2.2.2.1 z.2.2.2.2.2.2.1 z.2.2.2.2.2.2.2.1 z.2.2.2.2.2.2.2.2.1 z.2.2.2.2.2.2.2.2.2.1 z.2.2.2.2.2.2.2.2.2.2.1 z.2.2.2.2.2.2.2.2.2.2.2.1 z.2.2.2.2.2.2.2.2.2.2.2.2.1 z.2.2.2.2.2.2.2.2.2.2.2.2.2.1 z.2.2.2.2.2.2.2.2.2.2.2.2.2.2.1 z.2.2.2.2.2.2.2.2.2.2.2.2.2.2.2.1 z.2.2.2.2.2.2.2.2.2.2.2.2.2.2.2.2.1 z.2.2.2.2.2.2.2.2.2.2.2.2.2.2.2.2.2.1 z.2.2.2.2.2.2.2.2.2.2.2.2.2.2.2.2.2.2.1 z.2.2.2.2.2.2.2.2.2.2.2.2.2.2.2.2.2.2.2.1 z.2.2.2.2.2.2.2.2.2.2.2.2.2.2.2.2.2.2.2.2.1 z.2.2.2.2.2.2.2.2.2.2.2.2.2.2.2.2.2.2.2.2.2.1 z.2.2.2.2.2.2.2.2.2.2.2.2.2.2.2.2.2.2.2.2.2.2) (0, 0, [], 0, 0, 0, 0, 0, t13.1, t13.2.1, t13.2.2.2.2.2.2.1, t13.2.2.2.2.2.2.2.1, t13.2.2.2.2.2.2.2.2.1, t13.2.2.2.2.2.2.2.2.2.1, t13.2.2.2.2.2.2.2.2.2.2, [], [], [], [], t13.2.2.1, t13.2.2.2.1, t13.2.2.2.2.1, t13.2.2.2.2.2.1)).bind (Sum.elim (fun d_1 =>
 cond ((i1.length : Int) == 0)
 (some ((d_1.2.2.2.2.2.2.2.1, d_1.2.2.2.2.2.2.2.2.1, d_1.2.2.2.2.2.2.2.2.2.2.2.2.2.2.2.2.2.2.1, d_1.2.2.2.2.2.2.2.2.2.2.2.2.2.2.2.2.2.2.2.1, d_1.2.2.2.2.2.2.2.2.2.2.2.2.2.2.2.2.2.2.2.2.1, d_1.2.2.2.2.2.2.2.2.2.2.2.2.2.2.2.2.2.2.2.2.2, d_1.2.2.2.2.2.2.2.2.2.1, d_1.2.2.2.2.2.2.2.2.2.2.1, d_1.2.2.2.2.2.2.2.2.2.2.2.1, d_1.2.2.2.2.2.2.2.2.2.2.2.2.1, d_1.2.2.2.2.2.2.2.2.2.2.2.2.2.1), 0, 0))
 ((spec_VtabOk d_1.2.2.2.2.2.2.2.2.2.2.2.2.2.2.2.2.2.2.2.2 (d_1.2.2.2.2.2.2.2.2.2.2.2.2.2.2.2.2.2.2.1.length : Int)).bind fun t75 =>
 cond (!t75)
 ((spec_l11Copy p0).bind fun t78 =>
 some (t78, 5, (i1.length : Int)))
 ((spec_l11Turned (d_1.2.2.2.2.2.2.2.1, d_1.2.2.2.2.2.2.2.2.1, d_1.2.2.2.2.2.2.2.2.2.2.2.2.2.2.2.2.2.2.1, d_1.2.2.2.2.2.2.2.2.2.2.2.2.2.2.2.2.2.2.2.1, d_1.2.2.2.2.2.2.2.2.2.2.2.2.2.2.2.2.2.2.2.2.1, d_1.2.2.2.2.2.2.2.2.2.2.2.2.2.2.2.2.2.2.2.2.2, d_1.2.2.2.2.2.2.2.2.2.1, d_1.2.2.2.2.2.2.2.2.2.2.1, d_1.2.2.2.2.2.2.2.2.2.2.2.1, d_1.2.2.2.2.2.2.2.2.2.2.2.2.1, d_1.2.2.2.2.2.2.2.2.2.2.2.2.2.1)).bind fun t82 =>
 some (t82, 0, 0)))) (fun r_1 => some ((r_1.2.2.1, r_1.2.2.2.1, r_1.2.2.2.2.2.2.2.2.2.1, r_1.2.2.2.2.2.2.2.2.2.2.1, r_1.2.2.2.2.2.2.2.2.2.2.2.1, r_1.2.2.2.2.2.2.2.2.2.2.2.2, r_1.2.2.2.2.1, r_1.2.2.2.2.2.1, r_1.2.2.2.2.2.2.1, r_1.2.2.2.2.2.2.2.1, r_1.2.2.2.2.2.2.2.2.1), r_1.1, r_1.2.1))))
def F_spec_SetAll : Fn := ⟨[.val true cBridge false, .val false (.one (.sl cBind)) false], [.val true cBridge true, .val false cNI true, .val false cNI true], fun a => spec_SetAll a.1 a.2⟩
def a_spec_SetAll : List (Nat × LoopAnn) := [(0, ⟨⟨[(8, false, [dI])], [(2048, .box [dI, dS, .own 1000000000, .own 1000000001, .own 1000000002, .own 1000000003, dI, dI, dI, dI, dI]), (265216, .box [dI, dS, .own 1000000004, .own 1000000005, .own 1000000006, .own 1000000007, dI, dI, dI, dI, dI]), (1000000000, .root cPt true), (1000000001, .root cFent true), (1000000002, .root cVrow true), (1000000003, .root cNI true), (1000000004, .root cPt true), (1000000005, .root cFent true), (1000000006, .root cVrow true), (1000000007, .root cNI true)]⟩,
 ⟨[], [(2048, .box [dI, dS, .own 1000000300, .own 1000000301, .own 1000000302, .own 1000000303, dI, dI, dI, dI, dI]), (265216, .box [dI, dS, .own 1000000304, .own 1000000305, .own 1000000306, .own 1000000307, dI, dI, dI, dI, dI]), (1000000300, .root cPt true), (1000000301, .root cFent true), (1000000302, .root cVrow true), (1000000303, .root cNI true), (1000000304, .root cPt true), (1000000305, .root cFent true), (1000000306, .root cVrow true), (1000000307, .root cNI true)]⟩, some ⟨[(5, false, [dI]), (6, false, [dI])], [(2048, .box [dI, dS, .own 1000000600, .own 1000000601, .own 1000000602, .own 1000000603, dI, dI, dI, dI, dI]), (1000000600, .root cPt true), (1000000601, .root cFent true), (1000000602, .root cVrow true), (1000000603, .root cNI true)]⟩⟩),
 (2, ⟨⟨[(9, false, [dI])], [(2048, .box [dI, dS, .same 1000000000, .same 1000000001, .same 1000000002, .same 1000000003, dI, dI, dI, dI, dI])]⟩,
 ⟨[], [(2048, .box [dI, dS, .same 1000000000, .same 1000000001, .same 1000000002, .same 1000000003, dI, dI, dI, dI, dI])]⟩, some ⟨[(5, false, [dI]), (6, false, [dI])], [(2048, .box [dI, dS, .own 1000002600, .own 1000002601, .own 1000002602, .own 1000002603, dI, dI, dI, dI, dI]), (1000002600, .root cPt true), (1000002601, .root cFent true), (1000002602, .root cVrow true), (1000002603, .root cNI true)]⟩⟩)]
theorem m_spec_SetAll : Meets Tryz.prog 25 F_spec_SetAll := mkM g_98 25 Tryz.f25 a_spec_SetAll F_spec_SetAll Tryz.func25 (by kernel_rfl) (by kernel_rfl) (by kernel_rfl)
def fns_25 : List (FuncId × Fn) := (25, F_spec_SetAll) :: fns_98
theorem g_25 : Good Tryz.prog ⟨tis, fns_25, [], false⟩ := g_98.cons m_spec_SetAll
def impl_sameRows_l0 (a0 : List Vrow) (b1 : List Vrow) (t13 : Int) : Option (Int ⊕ (Unit ⊕ Bool)) :=
 cond (decide (t13 < (a0.length : Int)))
 ((at? a0 t13).bind fun x18 =>
 (at? b1 t13).bind fun x22 =>
 cond (!(x18.1 == x22.1 && (x18.2.1 == x22.2.1 && (x18.2.2 == x22.2.2)))) (some (.inr (.inr false))) (some (.inl (w64 (t13 + 1)))))
 (some (.inr (.inl ())))
def impl_sameRows (a0 : List Vrow) (b1 : List Vrow) : Option Bool :=
 cond ((a0.length : Int) != (b1.length : Int))
 (some false)
 ((loop (fun z => impl_sameRows_l0 a0 b1 z) 0).bind (Sum.elim (fun d =>
 some true) (fun r => some r)))
def F_impl_sameRows : Fn := ⟨[.val false (.one (.sl cVrow)) false, .val false (.one (.sl cVrow)) false], [.val false cNB true], fun a => impl_sameRows a.1 a.2⟩
def a_impl_sameRows : List (Nat × LoopAnn) := [(0, ⟨⟨[(13, false, [dI])], []⟩,
 ⟨[], []⟩, some ⟨[(4, false, [dB])], []⟩⟩)]
theorem m_impl_sameRows : Meets Tryz.prog 99 F_impl_sameRows := mkM g_25 99 Tryz.f99 a_impl_sameRows F_impl_sameRows Tryz.func99 (by kernel_rfl) (by kernel_rfl) (by kernel_rfl)
def fns_99 : List (FuncId × Fn) := (99, F_impl_sameRows) :: fns_25
theorem g_99 : Good Tryz.prog ⟨tis, fns_99, [], false⟩ := g_25.cons m_impl_sameRows
def impl_SameBridge_l0 (p0 : Bridge) (i1 : Bridge) (t60 : Int) : Option (Int ⊕ (Unit ⊕ Bool)) :=
 cond (decide (t60 < (p0.2.2.1.length : Int)))
 ((at? p0.2.2.1 t60).bind fun x66 =>
 (at? i1.2.2.1 t60).bind fun x71 =>
 cond (!(x66.1 == x71.1 && (x66.2.1 == x71.2.1 && (x66.2.2.1 == x71.2.2.1 && (x66.2.2.2.1 == x71.2.2.2.1 && (x66.2.2.2.2.1 == x71.2.2.2.2.1 && (x66.2.2.2.2.2.1 == x71.2.2.2.2.2.1 && (x66.2.2.2.2.2.2.1 == x71.2.2.2.2.2.2.1 && (x66.2.2.2.2.2.2.2 == x71.2.2.2.2.2.2.2))))))))) (some (.inr (.inr false))) (some (.inl (w64 (t60 + 1)))))
 (some (.inr (.inl ())))
def impl_SameBridge_l2 (p0 : Bridge) (i1 : Bridge) (t78 : Int) : Option (Int ⊕ (Unit ⊕ Bool)) :=
 cond (decide (t78 < (p0.2.2.2.1.length : Int)))
 ((at? p0.2.2.2.1 t78).bind fun x84 =>
 (at? i1.2.2.2.1 t78).bind fun x89 =>
 cond (!(x84.1 == x89.1 && (x84.2.1 == x89.2.1 && (x84.2.2.1 == x89.2.2.1 && (x84.2.2.2.1 == x89.2.2.2.1 && (x84.2.2.2.2 == x89.2.2.2.2)))))) (some (.inr (.inr false))) (some (.inl (w64 (t78 + 1)))))
 (some (.inr (.inl ())))
def impl_SameBridge (p0 : Bridge) (i1 : Bridge) : Option Bool :=
 (cond (p0.1 != i1.1) (some true) (some (!(p0.2.1 == i1.2.1)))).bind fun t18 =>
 (cond t18
 (some true)
 (some ((p0.2.2.1.length : Int) != (i1.2.2.1.length : Int)))).bind fun t27 =>
 (cond t27
 (some true)
 (some ((p0.2.2.2.1.length : Int) != (i1.2.2.2.1.length : Int)))).bind fun t36 =>
 (cond t36
 (some true)
 ((impl_sameRows p0.2.2.2.2.1 i1.2.2.2.2.1).bind fun t44 =>
 some (!t44))).bind fun t46 =>
 (cond t46
 (some true)
 ((impl_SameOid p0.2.2.2.2.2.1 i1.2.2.2.2.2.1).bind fun t54 =>
 some (!t54))).bind fun t56 =>
 cond t56
 (some false)
 ((loop (fun z => impl_SameBridge_l0 p0 i1 z) 0).bind (Sum.elim (fun d =>
 (loop (fun z => impl_SameBridge_l2 p0 i1 z) 0).bind (Sum.elim (fun d_1 =>
 (cond (p0.2.2.2.2.2.2.1 == i1.2.2.2.2.2.2.1) (some (p0.2.2.2.2.2.2.2.1 == i1.2.2.2.2.2.2.2.1)) (some false)).bind fun t104 =>
 (cond t104
 (some (p0.2.2.2.2.2.2.2.2.1 == i1.2.2.2.2.2.2.2.2.1))
 (some false)).bind fun t111 =>
 (cond t111
 (some (p0.2.2.2.2.2.2.2.2.2.1 == i1.2.2.2.2.2.2.2.2.2.1))
 (some false)).bind fun t118 =>
 (cond t118
 (some (p0.2.2.2.2.2.2.2.2.2.2 == i1.2.2.2.2.2.2.2.2.2.2))
 (some false)).bind fun t125 =>
 some t125) (fun r => some r))) (fun r_1 => some r_1)))
def F_impl_SameBridge : Fn := ⟨[.val true cBridge false, .val true cBridge false], [.val false cNB true], fun a => impl_SameBridge a.1 a.2⟩
def a_impl_SameBridge : List (Nat × LoopAnn) := [(0, ⟨⟨[(60, false, [dI])], []⟩,
 ⟨[], []⟩, some ⟨[(4, false, [dB])], []⟩⟩),
 (2, ⟨⟨[(78, false, [dI])], []⟩,
 ⟨[], []⟩, some ⟨[(4, false, [dB])], []⟩⟩)]
theorem m_impl_SameBridge : Meets Tryz.prog 26 F_impl_SameBridge := mkM g_99 26 Tryz.f26 a_impl_SameBridge F_impl_SameBridge Tryz.func26 (by kernel_rfl) (by kernel_rfl) (by kernel_rfl)
def fns_26 : List (FuncId × Fn) := (26, F_impl_SameBridge) :: fns_99
theorem g_26 : Good Tryz.prog ⟨tis, fns_26, [], false⟩ := g_99.cons m_impl_SameBridge
def impl_thing (v0 : Val) (name1 : List Int) : Option Bind :=
 (app ([1, 3, 1] : List Int) name1).bind fun zs7 =>
 some (zs7, v0.1, v0.2.1, v0.2.2.1, v0.2.2.2)
def F_impl_thing : Fn := ⟨[.val true cVal false, .val false cNN false], [.val true cBind false], fun a => impl_thing a.1 a.2⟩
theorem m_impl_thing : Meets Tryz.prog 198 F_impl_thing := mkM g_26 198 Tryz.f198 [] F_impl_thing Tryz.func198 (by kernel_rfl) (by kernel_rfl) (by kernel_rfl)
def fns_198 : List (FuncId × Fn) := (198, F_impl_thing) :: fns_26
theorem g_198 : Good Tryz.prog ⟨tis, fns_198, [], false⟩ := g_26.cons m_impl_thing
def impl_number (n0 : Int) : Option Val :=
 some (2, n0, [], [])
def F_impl_number : Fn := ⟨[.val false cNI false], [.val true cVal true], fun a => impl_number a⟩
theorem m_impl_number : Meets Tryz.prog 199 F_impl_number := mkM g_198 199 Tryz.f199 [] F_impl_number Tryz.func199 (by kernel_rfl) (by kernel_rfl) (by kernel_rfl)
def fns_199 : List (FuncId × Fn) := (199, F_impl_number) :: fns_198
theorem g_199 : Good Tryz.prog ⟨tis, fns_199, [], false⟩ := g_198.cons m_impl_number
def impl_bit (is0 : Bool) : Option Int :=
 cond is0 (some 1) (some 0)
def F_impl_bit : Fn := ⟨[.val false cNB false], [.val false cNI true], fun a => impl_bit a⟩
theorem m_impl_bit : Meets Tryz.prog 306 F_impl_bit := mkM g_199 306 Tryz.f306 [] F_impl_bit Tryz.func306 (by kernel_rfl) (by kernel_rfl) (by kernel_rfl)
def fns_306 : List (FuncId × Fn) := (306, F_impl_bit) :: fns_199
theorem g_306 : Good Tryz.prog ⟨tis, fns_306, [], false⟩ := g_199.cons m_impl_bit
def impl_portThing (b0 : Bridge) (c1 : Int) (p2 : Int) : Option Int :=
 cond (c1 == 1)
 ((at? b0.2.2.1 p2).bind fun x13 =>
 (impl_bit x13.1).bind fun t16 =>
 some t16)
 (cond (c1 == 2)
 ((at? b0.2.2.1 p2).bind fun x22 =>
 some x22.2.1)
 (cond (c1 == 3)
 ((impl_RoleOf b0.1 b0.2.2.1 p2).bind fun t32 =>
 some t32)
 ((at? b0.2.2.2.2.2.1 p2).bind fun x37 =>
 some x37)))
def F_impl_portThing : Fn := ⟨[.val true cBridge false, .val false cNI false, .val false cNI false], [.val false cNI true], fun a => impl_portThing a.1 a.2.1 a.2.2⟩
theorem m_impl_portThing : Meets Tryz.prog 200 F_impl_portThing := mkM g_306 200 Tryz.f200 [] F_impl_portThing Tryz.func200 (by kernel_rfl) (by kernel_rfl) (by kernel_rfl)
def fns_200 : List (FuncId × Fn) := (200, F_impl_portThing) :: fns_306
theorem g_200 : Good Tryz.prog ⟨tis, fns_200, [], false⟩ := g_306.cons m_impl_portThing
def impl_MibList_l0 (p0 : Bridge) (t32 : Int) (t3 : List Bind) : Option ((Int × List Bind) ⊕ (List Bind)) :=
 cond (decide (t32 < ([p0.2.2.2.2.2.2.1, p0.2.2.2.2.2.2.2.1, p0.2.2.2.2.2.2.2.2.1, p0.2.2.2.2.2.2.2.2.2.1].length : Int)))
 ((ix [p0.2.2.2.2.2.2.1, p0.2.2.2.2.2.2.2.1, p0.2.2.2.2.2.2.2.2.1, p0.2.2.2.2.2.2.2.2.2.1].length t32).bind fun j35 =>
 ([p0.2.2.2.2.2.2.1, p0.2.2.2.2.2.2.2.1, p0.2.2.2.2.2.2.2.2.1, p0.2.2.2.2.2.2.2.2.2.1][j35]?).bind fun x36 =>
 (impl_number x36).bind fun t39 =>
 (impl_thing t39 [1, w64 (t32 + 2)]).bind fun t43 =>
 (app t3 [t43]).bind fun zs45 =>
 some (.inl (w64 (t32 + 1), zs45)))
 (some (.inr t3))
def impl_MibList_l4 (p0 : Bridge) (t6 : Int) (t54 : Int) (t3_3 : List Bind) : Option ((Int × List Bind) ⊕ (List Bind)) :=
 cond (decide (t54 < (p0.2.2.1.length : Int)))
 ((impl_portThing p0 t6 t54).bind fun t61 =>
 (impl_number t61).bind fun t62 =>
 (impl_thing t62 [2, t6, w64 (t54 + 1)]).bind fun t67 =>
 (app t3_3 [t67]).bind fun zs69 =>
 some (.inl (w64 (t54 + 1), zs69)))
 (some (.inr t3_3))
def impl_MibList_l2 (p0 : Bridge) (t6 : Int) (t3_2 : List Bind) : Option ((Int × List Bind) ⊕ (List Bind)) :=
 cond (decide (t6 ≤ 4))
 ((loop (fun z => impl_MibList_l4 p0 t6 z.1 z.2) (0, t3_2)).bind fun d_1 =>
 some (.inl (w64 (t6 + 1), d_1)))
 (some (.inr t3_2))
def impl_MibList_l8 (p0 : Bridge) (t8 : Int) (t79 : Int) (t3_7 : List Bind) : Option ((Int × List Bind) ⊕ (List Bind)) :=
 cond (decide (t79 < (p0.2.2.2.2.1.length : Int)))
 ((at? p0.2.2.2.2.1 t79).bind fun x81 =>
 (ix [1, x81.2.1, x81.2.2].length (w64 (t8 - 1))).bind fun j91 =>
 ([1, x81.2.1, x81.2.2][j91]?).bind fun x92 =>
 (impl_number x92).bind fun t93 =>
 (impl_thing t93 [3, t8, x81.1]).bind fun t98 =>
 (app t3_7 [t98]).bind fun zs100 =>
 some (.inl (w64 (t79 + 1), zs100)))
 (some (.inr t3_7))
def impl_MibList_l6 (p0 : Bridge) (t8 : Int) (t3_6 : List Bind) : Option ((Int × List Bind) ⊕ (List Bind)) :=
 cond (decide (t8 ≤ 3))
 ((loop (fun z => impl_MibList_l8 p0 t8 z.1 z.2) (0, t3_6)).bind fun d_3 =>
 some (.inl (w64 (t8 + 1), d_3)))
 (some (.inr t3_6))
def impl_MibList_l10 (p0 : Bridge) (t105 : Int) (t3_10 : List Bind) : Option ((Int × List Bind) ⊕ (List Bind)) :=
 cond (decide (t105 < (p0.2.2.2.1.length : Int)))
 ((at? p0.2.2.2.1 t105).bind fun x107 =>
 (impl_number (w64 (x107.2.2.1 + 1))).bind fun t113 =>
 (impl_thing t113 [4, 1, x107.1, x107.2.1]).bind fun t119 =>
 (app t3_10 [t119]).bind fun zs121 =>
 some (.inl (w64 (t105 + 1), zs121)))
 (some (.inr t3_10))
def impl_MibList (p0 : Bridge) : Option (List Bind) :=
 (impl_BridgeOk p0).bind fun t14 =>
 cond (!t14)
 (some [])
 ((impl_thing (4, 0, p0.2.1, []) ([1, 1] : List Int)).bind fun t20 =>
 (loop (fun z => impl_MibList_l0 p0 z.1 z.2) (0, [t20])).bind fun d =>
 (loop (fun z => impl_MibList_l2 p0 z.1 z.2) (1, d)).bind fun d_2 =>
 (loop (fun z => impl_MibList_l6 p0 z.1 z.2) (1, d_2)).bind fun d_4 =>
 (loop (fun z => impl_MibList_l10 p0 z.1 z.2) (0, d_4)).bind fun d_5 =>
 some d_5)
def F_impl_MibList : Fn := ⟨[.val true cBridge false], [.val false (.one (.sl cBind)) false], fun a => impl_MibList a⟩
def a_impl_MibList : List (Nat × LoopAnn) := [(0, ⟨⟨[(3, false, [.own 1000000000]), (32, false, [dI])], [(1000000000, .root cBind false)]⟩,
 ⟨[(3, false, [.own 1000000300])], [(1000000300, .root cBind false)]⟩, none⟩),
 (2, ⟨⟨[(3, false, [.own 1000002000]), (6, false, [dI])], [(1000002000, .root cBind false)]⟩,
 ⟨[(3, false, [.own 1000002300])], [(1000002300, .root cBind false)]⟩, none⟩),
 (4, ⟨⟨[(3, false, [.own 1000004000]), (54, false, [dI])], [(1000004000, .root cBind false)]⟩,
 ⟨[(3, false, [.own 1000004300])], [(1000004300, .root cBind false)]⟩, none⟩),
 (6, ⟨⟨[(3, false, [.own 1000006000]), (8, false, [dI])], [(1000006000, .root cBind false)]⟩,
 ⟨[(3, false, [.own 1000006300])], [(1000006300, .root cBind false)]⟩, none⟩),
 (8, ⟨⟨[(3, false, [.own 1000008000]), (79, false, [dI])], [(1000008000, .root cBind false)]⟩,
 ⟨[(3, false, [.own 1000008300])], [(1000008300, .root cBind false)]⟩, none⟩),
 (10, ⟨⟨[(3, false, [.own 1000010000]), (105, false, [dI])], [(1000010000, .root cBind false)]⟩,
 ⟨[(3, false, [.own 1000010300])], [(1000010300, .root cBind false)]⟩, none⟩)]
theorem m_impl_MibList : Meets Tryz.prog 86 F_impl_MibList := mkM g_200 86 Tryz.f86 a_impl_MibList F_impl_MibList Tryz.func86 (by kernel_rfl) (by kernel_rfl) (by kernel_rfl)
def fns_86 : List (FuncId × Fn) := (86, F_impl_MibList) :: fns_200
theorem g_86 : Good Tryz.prog ⟨tis, fns_86, [], false⟩ := g_200.cons m_impl_MibList
def impl_MibGet_l0 (o1 : List Int) (t8 : List Bind) (t10 : Int) (b0_1 : Int) (b1 : Int) (b2 : List UInt8) (b3 : List Int) : Option ((Int × Int × Int × List UInt8 × List Int) ⊕ ((Int × Int × List UInt8 × List Int) ⊕ (Int × Int × List UInt8 × List Int))) :=
 cond (decide (t10 < (t8.length : Int)))
 ((at? t8 t10).bind fun x12 =>
 (impl_SameOid x12.1 o1).bind fun t17 =>
 cond t17
 (some (.inr (.inr x12.2)))
 (some (.inl (w64 (t10 + 1), b0_1, b1, b2, b3))))
 (some (.inr (.inl (b0_1, b1, b2, b3))))
def impl_MibGet (b0 : Bridge) (o1 : List Int) : Option Val :=
 (impl_MibList b0).bind fun t8 =>
 (loop (fun z => impl_MibGet_l0 o1 t8 z.1 z.2.1 z.2.2.1 z.2.2.2.1 z.2.2.2.2) (0, 0, 0, [], [])).bind (Sum.elim (fun d =>
 some (128, 0, [], [])) (fun r => some r))
def F_impl_MibGet : Fn := ⟨[.val true cBridge false, .val false cNN false], [.val true cVal false], fun a => impl_MibGet a.1 a.2⟩
def a_impl_MibGet : List (Nat × LoopAnn) := [(0, ⟨⟨[(10, false, [dI])], [(2048, .box [dI, dI, dS, .own 1000000000]), (1000000000, .root cNI true)]⟩,
 ⟨[], [(2048, .box [dI, dI, dS, .own 1000000300]), (1000000300, .root cNI true)]⟩, some ⟨[], [(2048, .box [dI, dI, dS, .dat (.sl cNI)])]⟩⟩)]
theorem m_impl_MibGet : Meets Tryz.prog 28 F_impl_MibGet := mkM g_86 28 Tryz.f28 a_impl_MibGet F_impl_MibGet Tryz.func28 (by kernel_rfl) (by kernel_rfl) (by kernel_rfl)
def fns_28 : List (FuncId × Fn) := (28, F_impl_MibGet) :: fns_86
theorem g_28 : Good Tryz.prog ⟨tis, fns_28, [], false⟩ := g_86.cons m_impl_MibGet
def laws_gone_l0 (l0 : List Bind) (o1 : List Int) (i5 : Int) : Option (Int ⊕ (Unit ⊕ Bool)) :=
 cond (decide (i5 < (l0.length : Int)))
 ((at? l0 i5).bind fun x15 =>
 (cond ((o1.length : Int) == 6) (some ((x15.1.length : Int) == 6)) (some false)).bind fun t25 =>
 (cond t25
 ((at? o1 3).bind fun x28 =>
 some (x28 == 3))
 (some false)).bind fun t31 =>
 (cond t31
 ((at? x15.1 3).bind fun x34 =>
 some (x34 == 3))
 (some false)).bind fun t37 =>
 (cond t37
 ((at? x15.1 4).bind fun x40 =>
 some (x40 == 1))
 (some false)).bind fun t43 =>
 (cond t43
 ((at? x15.1 5).bind fun x46 =>
 (at? o1 5).bind fun x49 =>
 some (x46 == x49))
 (some false)).bind fun t52 =>
 cond t52 (some (.inr (.inr true))) (some (.inl (w64 (i5 + 1)))))
 (some (.inr (.inl ())))
def laws_gone (l0 : List Bind) (o1 : List Int) : Option Bool :=
 (loop (fun z => laws_gone_l0 l0 o1 z) 0).bind (Sum.elim (fun d =>
 some false) (fun r => some r))
def F_laws_gone : Fn := ⟨[.val false (.one (.sl cBind)) false, .val false cNN false], [.val false cNB true], fun a => laws_gone a.1 a.2⟩
def a_laws_gone : List (Nat × LoopAnn) := [(0, ⟨⟨(5, false, [dI]) :: us 22 3 (us 27 4 (us 33 4 (us 39 4 (us 45 7 [])))), []⟩,
 ⟨[], []⟩, some ⟨[(4, false, [dB])], []⟩⟩)]
theorem m_laws_gone : Meets Tryz.prog 29 F_laws_gone := mkM g_28 29 Tryz.f29 a_laws_gone F_laws_gone Tryz.func29 (by kernel_rfl) (by kernel_rfl) (by kernel_rfl)
def fns_29 : List (FuncId × Fn) := (29, F_laws_gone) :: fns_28
theorem g_29 : Good Tryz.prog ⟨tis, fns_29, [], false⟩ := g_28.cons m_laws_gone
def laws_FnSets_l0 (t18 : Bridge × Pdu) (t11 : Int) (b0 : Int) (b1 : List UInt8) (b2 : List Pt) (b3 : List Fent) (b4 : List Vrow) (b5 : List Int) (b6 : Int) (b7 : Int) (b8 : Int) (b9 : Int) (b10 : Int) : Option ((Int × Int × List UInt8 × List Pt × List Fent × List Vrow × List Int × Int × Int × Int × Int × Int) ⊕ ((Int × List UInt8 × List Pt × List Fent × List Vrow × List Int × Int × Int × Int × Int × Int) ⊕ Bool)) :=
 cond (decide (t11 < (t18.2.2.2.2.2.length : Int)))
 ((ix t18.2.2.2.2.2.length t11).bind fun j82 =>
 (t18.2.2.2.2.2[j82]?).bind fun x84 =>
 (impl_MibGet (b0, b1, b2, b3, b4, b5, b6, b7, b8, b9, b10) x84.1).bind fun t87 =>
 (cond ((x84.1.length : Int) == 6)
 ((at? x84.1 3).bind fun x93 =>
 some (x93 == 3))
 (some false)).bind fun t96 =>
 (cond t96
 ((at? x84.1 4).bind fun x99 =>
 some (x99 == 1))
 (some false)).bind fun t102 =>
 cond t102
 ((ix t18.2.2.2.2.2.length t11).bind fun j109 =>
 (t18.2.2.2.2.2[j109]?).bind fun x112 =>
 cond (!((t87.1 == 128) == (x112.2.2.1 == 6)))
 (some (.inr (.inr false)))
 (some (.inl (w64 (t11 + 1), b0, b1, b2, b3, b4, b5, b6, b7, b8, b9, b10))))
 ((ix t18.2.2.2.2.2.length t11).bind fun j119 =>
 (t18.2.2.2.2.2[j119]?).bind fun x121 =>
 (impl_SameVal t87 x121.2).bind fun t122 =>
 (cond (!t122)
 ((laws_gone t18.2.2.2.2.2 x84.1).bind fun t128 =>
 some (!t128))
 (some false)).bind fun t130 =>
 cond t130
 (some (.inr (.inr false)))
 (some (.inl (w64 (t11 + 1), b0, b1, b2, b3, b4, b5, b6, b7, b8, b9, b10)))))
 (some (.inr (.inl (b0, b1, b2, b3, b4, b5, b6, b7, b8, b9, b10))))
def laws_FnSets (p0 : List Int) : Option Bool :=
 (laws_big p0).bind fun t15 =>
 cond t15
 (some true)
 ((spec_DrawAsked p0).bind fun t18 =>
 (impl_SetAll t18.1 t18.2.2.2.2.2).bind fun t25 =>
 (spec_SetAll t18.1 t18.2.2.2.2.2).bind fun t33 =>
 (cond (t25.2.1 != t33.2.1) (some true) (some (t25.2.2 != t33.2.2))).bind fun t44 =>
 (cond t44
 (some true)
 ((impl_SameBridge t25.1 t33.1).bind fun t48 =>
 some (!t48))).bind fun t50 =>
 (cond t50
 (some true)
 ((impl_BridgeOk t25.1).bind fun t53 =>
 some (!t53))).bind fun t55 =>
 cond t55
 (some false)
 (cond (t25.2.1 != 0)
 ((impl_SameBridge t25.1 t18.1).bind fun t60 =>
 (cond t60 (some (decide (t25.2.2 ≥ 1))) (some false)).bind fun t64 =>
 (cond t64
 (some (decide (t25.2.2 ≤ (t18.2.2.2.2.2.length : Int))))
 (some false)).bind fun t71 =>
 some t71)
 ((loop (fun z => laws_FnSets_l0 t18 z.1 z.2.1 z.2.2.1 z.2.2.2.1 z.2.2.2.2.1 z.2.2.2.2.2.1 z.2.2.2.2.2.2.1 z.2.2.2.2.2.2.2.1 z.2.2.2.2.2.2.2.2.1 z.2.2.2.2.2.2.2.2.2.1 z.2.2.2.2.2.2.2.2.2.2.1 z.2.2.2.2.2.2.2.2.2.2.2) (0, t25.1.1, t25.1.2.1, t25.1.2.2.1, t25.1.2.2.2.1, t25.1.2.2.2.2.1, t25.1.2.2.2.2.2.1, t25.1.2.2.2.2.2.2.1, t25.1.2.2.2.2.2.2.2.1, t25.1.2.2.2.2.2.2.2.2.1, t25.1.2.2.2.2.2.2.2.2.2.1, t25.1.2.2.2.2.2.2.2.2.2.2)).bind (Sum.elim (fun d =>
 some (t25.2.2 == 0)) (fun r => some r)))))
def F_laws_FnSets : Fn := ⟨[.val false cNY false], [.val false cNB true], fun a => laws_FnSets a⟩
def a_laws_FnSets : List (Nat × LoopAnn) := [(0, ⟨⟨(11, false, [dI]) :: us 92 4 (us 98 4 (us 125 5 [])), [(1057792, .box [dI, dS, .dat (.sl cPt), .dat (.sl cFent), .dat (.sl cVrow), .dat (.sl cNI), dI, dI, dI, dI, dI])]⟩,
 ⟨[], [(1057792, .box [dI, dS, .dat (.sl cPt), .dat (.sl cFent), .dat (.sl cVrow), .dat (.sl cNI), dI, dI, dI, dI, dI])]⟩, some ⟨[(2, false, [dB])], []⟩⟩)]
theorem m_laws_FnSets : Meets Tryz.prog 4 F_laws_FnSets := mkM g_29 4 Tryz.f4 a_laws_FnSets F_laws_FnSets Tryz.func4 (by kernel_rfl) (by kernel_rfl) (by kernel_rfl)
def impl_OidOk_l0 (o0 : List Int) (t7 : Int) : Option (Int ⊕ (Unit ⊕ Bool)) :=
 cond (decide (t7 < (o0.length : Int)))
 ((at? o0 t7).bind fun x9 =>
 (impl_in x9 0 100000).bind fun t12 =>
 cond (!t12) (some (.inr (.inr false))) (some (.inl (w64 (t7 + 1)))))
 (some (.inr (.inl ())))
def impl_OidOk (o0 : List Int) : Option Bool :=
 (loop (fun z => impl_OidOk_l0 o0 z) 0).bind (Sum.elim (fun d =>
 (impl_in (o0.length : Int) 1 10).bind fun t17 =>
 some t17) (fun r => some r))
def impl_isInt (n0 : Int) : Option Bool :=
 (impl_in n0 (-2147483648) 2147483647).bind fun t4 =>
 some t4
def impl_ValOk (v0 : Val) : Option Bool :=
 cond (v0.1 == 2)
 ((impl_isInt v0.2.1).bind fun t17 =>
 (cond t17
 ((impl_SameVal v0 (v0.1, v0.2.1, [], [])).bind fun t43 =>
 some t43)
 (some false)).bind fun t44 =>
 some t44)
 (cond (v0.1 == 4)
 (let ok4 := decide ((v0.2.2.1.length : Int) ≤ 20)
 (cond ok4
 ((impl_SameVal v0 (v0.1, 0, v0.2.2.1, [])).bind fun t43_1 =>
 some t43_1)
 (some false)).bind fun t44_1 =>
 some t44_1)
 (cond (v0.1 == 6)
 ((impl_OidOk v0.2.2.2).bind fun t34 =>
 (cond t34
 ((impl_SameVal v0 (v0.1, 0, [], v0.2.2.2)).bind fun t43_2 =>
 some t43_2)
 (some false)).bind fun t44_2 =>
 some t44_2)
 (cond (v0.1 == 5)
 (cond (v0.1 == 5)
 (((impl_SameVal v0 (v0.1, 0, [], [])).bind fun t43_3 =>
 some t43_3).bind fun t44_3 =>
 some t44_3)
 (some false))
 (cond (v0.1 == 128)
 (cond (v0.1 == 128)
 (((impl_SameVal v0 (v0.1, 0, [], [])).bind fun t43_4 =>
 some t43_4).bind fun t44_4 =>
 some t44_4)
 (some false))
 (cond (v0.1 == 130)
 (((impl_SameVal v0 (v0.1, 0, [], [])).bind fun t43_5 =>
 some t43_5).bind fun t44_5 =>
 some t44_5)
 (some false))))))
end
end Go.V.W

