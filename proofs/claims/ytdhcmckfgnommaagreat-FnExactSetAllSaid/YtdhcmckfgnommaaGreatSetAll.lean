/- The law FnExactSetAll: part of the proof that for every input it returns true. No condition. -/
import Derived.Test.YtdhcmckfgnommaaGreatV4
import Derived.Test.YtdhcmckfgnommaaGreatProg
import Derived.Test.YtdhcmckfgnommaaGreatChecked
import Derived.KernelRfl
namespace Go.V.W
open Go.Proofs
set_option linter.unusedVariables false
@[reducible] def cVrow : Cs := .cons (.int .i64) (.cons (.int .i64) (.one (.int .i64)))
@[reducible] def cVtab : Cs := .cons (.sl cVrow) (.one (.sl (.one (.int .i64))))
@[reducible] def cVec : Cs := .cons (.int .i64) (.cons (.int .i64) (.cons (.int .i64) (.cons (.int .i64) (.one (.int .i64)))))
@[reducible] def cPt : Cs := .cons .bool (.cons (.int .i64) (.cons .bool (.cons (.int .i64) (.cons (.int .i64) (.cons (.int .i64) (.cons (.int .i64) (.one (.int .i64))))))))
@[reducible] def cFent : Cs := .cons (.int .i64) (.cons (.int .i64) (.cons (.int .i64) (.cons (.int .i64) (.one .bool))))
@[reducible] def cBridge : Cs := .cons (.int .i64) (.cons .str (.cons (.sl cPt) (.cons (.sl cFent) (.cons (.sl cVrow) (.cons (.sl (.one (.int .i64))) (.cons (.int .i64) (.cons (.int .i64) (.cons (.int .i64) (.cons (.int .i64) (.one (.int .i64)))))))))))
@[reducible] def cVal : Cs := .cons (.int .i64) (.cons (.int .i64) (.cons .str (.one (.sl (.one (.int .i64))))))
@[reducible] def cBind : Cs := .cons (.sl (.one (.int .i64))) (.cons (.int .i64) (.cons (.int .i64) (.cons .str (.one (.sl (.one (.int .i64)))))))
abbrev Vrow : Type := Int × Int × Int
abbrev Vtab : Type := List Vrow × List Int
abbrev Vec : Type := Int × Int × Int × Int × Int
abbrev Pt : Type := Bool × Int × Bool × Int × Int × Int × Int × Int
abbrev Fent : Type := Int × Int × Int × Int × Bool
abbrev Bridge : Type := Int × List UInt8 × List Pt × List Fent × List Vrow × List Int × Int × Int × Int × Int × Int
abbrev Val : Type := Int × Int × List UInt8 × List Int
abbrev Bind : Type := List Int × Int × Int × List UInt8 × List Int
def tis : List (Nat × TInfo) := [(2, ⟨false, .one (.int .i64), [], 0⟩),
  (3, ⟨false, .one (.int .i64), [], 0⟩),
  (4, ⟨false, .one .bool, [], 0⟩),
  (5, ⟨false, .one (.int .u8), [], 0⟩),
  (6, ⟨false, .one (.int .u8), [], 0⟩),
  (9, ⟨false, .one .str, [], 0⟩),
  (10, ⟨false, .one .str, [], 0⟩),
  (11, ⟨false, .one .str, [], 0⟩),
  (12, ⟨false, .one (.int .u64), [], 0⟩),
  (21, ⟨false, .one (.int .i32), [], 0⟩),
  (22, ⟨false, .one (.sl (.one (.int .u8))), [], 5⟩),
  (24, ⟨false, .one (.sl cPt), [], 141⟩),
  (25, ⟨false, .one (.sl cFent), [], 143⟩),
  (26, ⟨false, .one (.sl cVrow), [], 232⟩),
  (27, ⟨false, .one (.sl (.one (.int .i64))), [], 3⟩),
  (28, ⟨true, cVtab, [(26, 0), (27, 1)], 0⟩),
  (29, ⟨true, cVtab, [(26, 0), (27, 1)], 0⟩),
  (30, ⟨true, cBridge, [(3, 0), (9, 1), (24, 2), (25, 3), (29, 4), (3, 6), (3, 7), (3, 8), (3, 9), (3, 10)], 0⟩),
  (31, ⟨true, cBridge, [(3, 0), (9, 1), (24, 2), (25, 3), (29, 4), (3, 6), (3, 7), (3, 8), (3, 9), (3, 10)], 0⟩),
  (35, ⟨false, .one (.sl cBind), [], 43⟩),
  (36, ⟨true, .cons (.int .i64) (.cons (.int .i64) (.cons (.int .i64) (.cons (.int .i64) (.one (.sl cBind))))), [(3, 0), (3, 1), (3, 2), (3, 3), (35, 4)], 0⟩),
  (37, ⟨true, .cons (.int .i64) (.cons (.int .i64) (.cons (.int .i64) (.cons (.int .i64) (.one (.sl cBind))))), [(3, 0), (3, 1), (3, 2), (3, 3), (35, 4)], 0⟩),
  (40, ⟨true, cVal, [(3, 0), (3, 1), (9, 2), (27, 3)], 0⟩),
  (41, ⟨true, cVal, [(3, 0), (3, 1), (9, 2), (27, 3)], 0⟩),
  (42, ⟨true, cBind, [(27, 0), (41, 1)], 0⟩),
  (43, ⟨true, cBind, [(27, 0), (41, 1)], 0⟩),
  (65, ⟨false, .one (.sl (.cons (.int .i64) (.cons (.sl (.one (.int .u8))) (.cons (.int .i64) (.cons (.int .i64) (.cons (.int .i64) (.cons (.int .i64) (.cons (.int .i64) (.cons (.sl cBind) (.cons (.int .i64) (.cons .str (.cons (.sl cPt) (.cons (.sl cFent) (.cons (.sl cVrow) (.cons (.sl (.one (.int .i64))) (.cons (.int .i64) (.cons (.int .i64) (.cons (.int .i64) (.cons (.int .i64) (.cons (.int .i64) (.cons (.int .i64) (.one (.int .i64))))))))))))))))))))))), [], 72⟩),
  (66, ⟨true, .cons (.int .i64) (.cons .str (.cons (.sl cPt) (.cons (.sl cFent) (.cons (.sl cVrow) (.cons (.sl (.one (.int .i64))) (.cons (.int .i64) (.cons (.int .i64) (.cons (.int .i64) (.cons (.int .i64) (.cons (.int .i64) (.cons .str (.cons (.sl (.cons (.int .i64) (.cons (.sl (.one (.int .u8))) (.cons (.int .i64) (.cons (.int .i64) (.cons (.int .i64) (.cons (.int .i64) (.cons (.int .i64) (.cons (.sl cBind) (.cons (.int .i64) (.cons .str (.cons (.sl cPt) (.cons (.sl cFent) (.cons (.sl cVrow) (.cons (.sl (.one (.int .i64))) (.cons (.int .i64) (.cons (.int .i64) (.cons (.int .i64) (.cons (.int .i64) (.cons (.int .i64) (.cons (.int .i64) (.one (.int .i64))))))))))))))))))))))) (.cons (.int .i64) (.one (.int .i64))))))))))))))), [(31, 0), (9, 11), (65, 12), (3, 13), (3, 14)], 0⟩),
  (67, ⟨true, .cons (.int .i64) (.cons .str (.cons (.sl cPt) (.cons (.sl cFent) (.cons (.sl cVrow) (.cons (.sl (.one (.int .i64))) (.cons (.int .i64) (.cons (.int .i64) (.cons (.int .i64) (.cons (.int .i64) (.cons (.int .i64) (.cons .str (.cons (.sl (.cons (.int .i64) (.cons (.sl (.one (.int .u8))) (.cons (.int .i64) (.cons (.int .i64) (.cons (.int .i64) (.cons (.int .i64) (.cons (.int .i64) (.cons (.sl cBind) (.cons (.int .i64) (.cons .str (.cons (.sl cPt) (.cons (.sl cFent) (.cons (.sl cVrow) (.cons (.sl (.one (.int .i64))) (.cons (.int .i64) (.cons (.int .i64) (.cons (.int .i64) (.cons (.int .i64) (.cons (.int .i64) (.cons (.int .i64) (.one (.int .i64))))))))))))))))))))))) (.cons (.int .i64) (.one (.int .i64))))))))))))))), [(31, 0), (9, 11), (65, 12), (3, 13), (3, 14)], 0⟩),
  (71, ⟨true, .cons (.int .i64) (.cons (.sl (.one (.int .u8))) (.cons (.int .i64) (.cons (.int .i64) (.cons (.int .i64) (.cons (.int .i64) (.cons (.int .i64) (.cons (.sl cBind) (.cons (.int .i64) (.cons .str (.cons (.sl cPt) (.cons (.sl cFent) (.cons (.sl cVrow) (.cons (.sl (.one (.int .i64))) (.cons (.int .i64) (.cons (.int .i64) (.cons (.int .i64) (.cons (.int .i64) (.cons (.int .i64) (.cons (.int .i64) (.one (.int .i64))))))))))))))))))))), [(3, 0), (22, 1), (3, 2), (37, 3), (31, 8), (3, 19), (3, 20)], 0⟩),
  (72, ⟨true, .cons (.int .i64) (.cons (.sl (.one (.int .u8))) (.cons (.int .i64) (.cons (.int .i64) (.cons (.int .i64) (.cons (.int .i64) (.cons (.int .i64) (.cons (.sl cBind) (.cons (.int .i64) (.cons .str (.cons (.sl cPt) (.cons (.sl cFent) (.cons (.sl cVrow) (.cons (.sl (.one (.int .i64))) (.cons (.int .i64) (.cons (.int .i64) (.cons (.int .i64) (.cons (.int .i64) (.cons (.int .i64) (.cons (.int .i64) (.one (.int .i64))))))))))))))))))))), [(3, 0), (22, 1), (3, 2), (37, 3), (31, 8), (3, 19), (3, 20)], 0⟩),
  (74, ⟨false, .one (.sl (.cons (.int .i64) (.cons (.int .i64) (.cons (.int .i64) (.cons (.int .i64) (.cons (.int .i64) (.one (.sl cBind)))))))), [], 78⟩),
  (77, ⟨true, .cons (.int .i64) (.cons (.int .i64) (.cons (.int .i64) (.cons (.int .i64) (.cons (.int .i64) (.one (.sl cBind)))))), [(3, 0), (37, 1)], 0⟩),
  (78, ⟨true, .cons (.int .i64) (.cons (.int .i64) (.cons (.int .i64) (.cons (.int .i64) (.cons (.int .i64) (.one (.sl cBind)))))), [(3, 0), (37, 1)], 0⟩),
  (79, ⟨false, .one (.sl cPt), [], 261⟩),
  (80, ⟨false, .one (.sl cFent), [], 263⟩),
  (81, ⟨false, .one (.sl cVrow), [], 326⟩),
  (82, ⟨true, cVtab, [(81, 0), (27, 1)], 0⟩),
  (83, ⟨true, cVtab, [(81, 0), (27, 1)], 0⟩),
  (84, ⟨true, cBridge, [(3, 0), (9, 1), (79, 2), (80, 3), (83, 4), (3, 6), (3, 7), (3, 8), (3, 9), (3, 10)], 0⟩),
  (85, ⟨true, cBridge, [(3, 0), (9, 1), (79, 2), (80, 3), (83, 4), (3, 6), (3, 7), (3, 8), (3, 9), (3, 10)], 0⟩),
  (86, ⟨false, .one (.sl cBind), [], 166⟩),
  (95, ⟨false, .one (.sl cBridge), [], 85⟩),
  (96, ⟨false, .one (.sl (.cons (.int .i64) (.cons (.int .i64) (.cons (.int .i64) (.one (.int .i64)))))), [], 272⟩),
  (97, ⟨false, .one (.sl (.cons (.int .i64) (.cons .bool (.cons (.int .i64) (.cons (.int .i64) (.cons (.int .i64) (.cons (.int .i64) (.one (.int .i64))))))))), [], 275⟩),
  (98, ⟨true, .cons (.sl cBridge) (.cons (.sl (.cons (.int .i64) (.cons (.int .i64) (.cons (.int .i64) (.one (.int .i64)))))) (.one (.sl (.cons (.int .i64) (.cons .bool (.cons (.int .i64) (.cons (.int .i64) (.cons (.int .i64) (.cons (.int .i64) (.one (.int .i64))))))))))), [(95, 0), (96, 1), (97, 2)], 0⟩),
  (99, ⟨true, .cons (.sl cBridge) (.cons (.sl (.cons (.int .i64) (.cons (.int .i64) (.cons (.int .i64) (.one (.int .i64)))))) (.one (.sl (.cons (.int .i64) (.cons .bool (.cons (.int .i64) (.cons (.int .i64) (.cons (.int .i64) (.cons (.int .i64) (.one (.int .i64))))))))))), [(95, 0), (96, 1), (97, 2)], 0⟩),
  (102, ⟨false, .one (.sl cBridge), [], 31⟩),
  (103, ⟨false, .one (.sl (.cons (.int .i64) (.cons (.int .i64) (.cons (.int .i64) (.one (.int .i64)))))), [], 202⟩),
  (104, ⟨false, .one (.sl (.cons (.int .i64) (.cons .bool (.cons (.int .i64) (.cons (.int .i64) (.cons (.int .i64) (.cons (.int .i64) (.one (.int .i64))))))))), [], 199⟩),
  (105, ⟨true, .cons (.sl cBridge) (.cons (.sl (.cons (.int .i64) (.cons (.int .i64) (.cons (.int .i64) (.one (.int .i64)))))) (.one (.sl (.cons (.int .i64) (.cons .bool (.cons (.int .i64) (.cons (.int .i64) (.cons (.int .i64) (.cons (.int .i64) (.one (.int .i64))))))))))), [(102, 0), (103, 1), (104, 2)], 0⟩),
  (106, ⟨true, .cons (.sl cBridge) (.cons (.sl (.cons (.int .i64) (.cons (.int .i64) (.cons (.int .i64) (.one (.int .i64)))))) (.one (.sl (.cons (.int .i64) (.cons .bool (.cons (.int .i64) (.cons (.int .i64) (.cons (.int .i64) (.cons (.int .i64) (.one (.int .i64))))))))))), [(102, 0), (103, 1), (104, 2)], 0⟩),
  (110, ⟨false, .one (.sl (.cons (.int .i64) (.cons (.sl (.one (.int .u8))) (.cons (.int .i64) (.cons (.int .i64) (.cons (.int .i64) (.cons (.int .i64) (.cons (.int .i64) (.cons (.sl cBind) (.cons (.int .i64) (.cons .str (.cons (.sl cPt) (.cons (.sl cFent) (.cons (.sl cVrow) (.cons (.sl (.one (.int .i64))) (.cons (.int .i64) (.cons (.int .i64) (.cons (.int .i64) (.cons (.int .i64) (.cons (.int .i64) (.cons (.int .i64) (.one (.int .i64))))))))))))))))))))))), [], 282⟩),
  (111, ⟨true, .cons (.int .i64) (.cons .str (.cons (.sl cPt) (.cons (.sl cFent) (.cons (.sl cVrow) (.cons (.sl (.one (.int .i64))) (.cons (.int .i64) (.cons (.int .i64) (.cons (.int .i64) (.cons (.int .i64) (.cons (.int .i64) (.cons .str (.cons (.sl (.cons (.int .i64) (.cons (.sl (.one (.int .u8))) (.cons (.int .i64) (.cons (.int .i64) (.cons (.int .i64) (.cons (.int .i64) (.cons (.int .i64) (.cons (.sl cBind) (.cons (.int .i64) (.cons .str (.cons (.sl cPt) (.cons (.sl cFent) (.cons (.sl cVrow) (.cons (.sl (.one (.int .i64))) (.cons (.int .i64) (.cons (.int .i64) (.cons (.int .i64) (.cons (.int .i64) (.cons (.int .i64) (.cons (.int .i64) (.one (.int .i64))))))))))))))))))))))) (.cons (.int .i64) (.one (.int .i64))))))))))))))), [(85, 0), (9, 11), (110, 12), (3, 13), (3, 14)], 0⟩),
  (112, ⟨true, .cons (.int .i64) (.cons .str (.cons (.sl cPt) (.cons (.sl cFent) (.cons (.sl cVrow) (.cons (.sl (.one (.int .i64))) (.cons (.int .i64) (.cons (.int .i64) (.cons (.int .i64) (.cons (.int .i64) (.cons (.int .i64) (.cons .str (.cons (.sl (.cons (.int .i64) (.cons (.sl (.one (.int .u8))) (.cons (.int .i64) (.cons (.int .i64) (.cons (.int .i64) (.cons (.int .i64) (.cons (.int .i64) (.cons (.sl cBind) (.cons (.int .i64) (.cons .str (.cons (.sl cPt) (.cons (.sl cFent) (.cons (.sl cVrow) (.cons (.sl (.one (.int .i64))) (.cons (.int .i64) (.cons (.int .i64) (.cons (.int .i64) (.cons (.int .i64) (.cons (.int .i64) (.cons (.int .i64) (.one (.int .i64))))))))))))))))))))))) (.cons (.int .i64) (.one (.int .i64))))))))))))))), [(85, 0), (9, 11), (110, 12), (3, 13), (3, 14)], 0⟩),
  (138, ⟨true, cVec, [(3, 0), (3, 1), (3, 2), (3, 3), (3, 4)], 0⟩),
  (139, ⟨true, cVec, [(3, 0), (3, 1), (3, 2), (3, 3), (3, 4)], 0⟩),
  (140, ⟨true, cPt, [(4, 0), (3, 1), (4, 2), (139, 3)], 0⟩),
  (141, ⟨true, cPt, [(4, 0), (3, 1), (4, 2), (139, 3)], 0⟩),
  (142, ⟨true, cFent, [(3, 0), (3, 1), (3, 2), (3, 3), (4, 4)], 0⟩),
  (143, ⟨true, cFent, [(3, 0), (3, 1), (3, 2), (3, 3), (4, 4)], 0⟩),
  (164, ⟨true, cVal, [(3, 0), (3, 1), (9, 2), (27, 3)], 0⟩),
  (165, ⟨true, cBind, [(27, 0), (164, 1)], 0⟩),
  (166, ⟨true, cBind, [(27, 0), (164, 1)], 0⟩),
  (198, ⟨true, .cons (.int .i64) (.cons .bool (.cons (.int .i64) (.cons (.int .i64) (.cons (.int .i64) (.cons (.int .i64) (.one (.int .i64))))))), [(3, 0), (4, 1), (139, 2)], 0⟩),
  (199, ⟨true, .cons (.int .i64) (.cons .bool (.cons (.int .i64) (.cons (.int .i64) (.cons (.int .i64) (.cons (.int .i64) (.one (.int .i64))))))), [(3, 0), (4, 1), (139, 2)], 0⟩),
  (201, ⟨true, .cons (.int .i64) (.cons (.int .i64) (.cons (.int .i64) (.one (.int .i64)))), [(3, 0), (3, 1), (3, 2), (3, 3)], 0⟩),
  (202, ⟨true, .cons (.int .i64) (.cons (.int .i64) (.cons (.int .i64) (.one (.int .i64)))), [(3, 0), (3, 1), (3, 2), (3, 3)], 0⟩),
  (210, ⟨true, .cons (.sl (.one (.int .u8))) (.cons (.int .i64) (.one (.int .i64))), [(22, 0), (3, 1), (3, 2)], 0⟩),
  (211, ⟨true, .cons (.sl (.one (.int .u8))) (.cons (.int .i64) (.one (.int .i64))), [(22, 0), (3, 1), (3, 2)], 0⟩),
  (214, ⟨false, .one (.sl (.one .str)), [], 9⟩),
  (226, ⟨false, .one (.sl (.one (.sl (.one (.int .i64))))), [], 27⟩),
  (231, ⟨true, cVrow, [(3, 0), (3, 1), (3, 2)], 0⟩),
  (232, ⟨true, cVrow, [(3, 0), (3, 1), (3, 2)], 0⟩),
  (242, ⟨false, .one (.int .u64), [], 0⟩),
  (259, ⟨true, cVec, [(3, 0), (3, 1), (3, 2), (3, 3), (3, 4)], 0⟩),
  (260, ⟨true, cPt, [(4, 0), (3, 1), (4, 2), (259, 3)], 0⟩),
  (261, ⟨true, cPt, [(4, 0), (3, 1), (4, 2), (259, 3)], 0⟩),
  (263, ⟨true, cFent, [(3, 0), (3, 1), (3, 2), (3, 3), (4, 4)], 0⟩),
  (272, ⟨true, .cons (.int .i64) (.cons (.int .i64) (.cons (.int .i64) (.one (.int .i64)))), [(3, 0), (3, 1), (3, 2), (3, 3)], 0⟩),
  (274, ⟨true, .cons (.int .i64) (.cons .bool (.cons (.int .i64) (.cons (.int .i64) (.cons (.int .i64) (.cons (.int .i64) (.one (.int .i64))))))), [(3, 0), (4, 1), (259, 2)], 0⟩),
  (275, ⟨true, .cons (.int .i64) (.cons .bool (.cons (.int .i64) (.cons (.int .i64) (.cons (.int .i64) (.cons (.int .i64) (.one (.int .i64))))))), [(3, 0), (4, 1), (259, 2)], 0⟩),
  (279, ⟨true, .cons (.int .i64) (.cons (.int .i64) (.cons (.int .i64) (.cons (.int .i64) (.one (.sl cBind))))), [(3, 0), (3, 1), (3, 2), (3, 3), (86, 4)], 0⟩),
  (280, ⟨true, .cons (.int .i64) (.cons (.int .i64) (.cons (.int .i64) (.cons (.int .i64) (.one (.sl cBind))))), [(3, 0), (3, 1), (3, 2), (3, 3), (86, 4)], 0⟩),
  (281, ⟨true, .cons (.int .i64) (.cons (.sl (.one (.int .u8))) (.cons (.int .i64) (.cons (.int .i64) (.cons (.int .i64) (.cons (.int .i64) (.cons (.int .i64) (.cons (.sl cBind) (.cons (.int .i64) (.cons .str (.cons (.sl cPt) (.cons (.sl cFent) (.cons (.sl cVrow) (.cons (.sl (.one (.int .i64))) (.cons (.int .i64) (.cons (.int .i64) (.cons (.int .i64) (.cons (.int .i64) (.cons (.int .i64) (.cons (.int .i64) (.one (.int .i64))))))))))))))))))))), [(3, 0), (22, 1), (3, 2), (280, 3), (85, 8), (3, 19), (3, 20)], 0⟩),
  (282, ⟨true, .cons (.int .i64) (.cons (.sl (.one (.int .u8))) (.cons (.int .i64) (.cons (.int .i64) (.cons (.int .i64) (.cons (.int .i64) (.cons (.int .i64) (.cons (.sl cBind) (.cons (.int .i64) (.cons .str (.cons (.sl cPt) (.cons (.sl cFent) (.cons (.sl cVrow) (.cons (.sl (.one (.int .i64))) (.cons (.int .i64) (.cons (.int .i64) (.cons (.int .i64) (.cons (.int .i64) (.cons (.int .i64) (.cons (.int .i64) (.one (.int .i64))))))))))))))))))))), [(3, 0), (22, 1), (3, 2), (280, 3), (85, 8), (3, 19), (3, 20)], 0⟩),
  (287, ⟨true, .cons (.sl (.one (.int .u8))) (.cons (.int .i64) (.one .bool)), [(22, 0), (3, 1), (4, 2)], 0⟩),
  (288, ⟨true, .cons (.sl (.one (.int .u8))) (.cons (.int .i64) (.one .bool)), [(22, 0), (3, 1), (4, 2)], 0⟩),
  (299, ⟨false, .one (.sl (.one .bool)), [], 4⟩),
  (326, ⟨true, cVrow, [(3, 0), (3, 1), (3, 2)], 0⟩),
  (337, ⟨true, .cons (.sl (.one (.int .u8))) (.cons (.int .i64) (.one .bool)), [(22, 0), (3, 1), (4, 2)], 0⟩),
  (338, ⟨true, .cons (.sl (.one (.int .u8))) (.cons (.int .i64) (.one .bool)), [(22, 0), (3, 1), (4, 2)], 0⟩),
  (345, ⟨true, .cons (.int .i64) (.one (.int .i64)), [(3, 0), (3, 1)], 0⟩),
  (346, ⟨true, .cons (.int .i64) (.one (.int .i64)), [(3, 0), (3, 1)], 0⟩),
  (364, ⟨false, .one (.int .i8), [], 0⟩),
  (374, ⟨false, .one (.int .u32), [], 0⟩),
  (375, ⟨false, .one (.int .u8), [], 0⟩),
  (376, ⟨false, .one (.int .u8), [], 0⟩),
  (379, ⟨false, .one (.int .i32), [], 0⟩),
  (380, ⟨false, .one (.int .i32), [], 0⟩)]
theorem tisT : Tis Tryz.prog tis := Tis.of_all (by kernel_rfl)
theorem tisE : Eqs Tryz.prog tis := Eqs.of_all (by kernel_rfl)
theorem tisD : Deep Tryz.prog tis := Deep.of_all (by kernel_rfl)
theorem mixed : Tryz.prog.follows .mixedOrders = true := by kernel_rfl
def codeOf (fn : Func) : Code := match fn.body with | some c => c | none => .skip
theorem g_0 : Good Tryz.prog ⟨tis, [], [], false⟩ := ⟨tisT, tisE, (fun f F h => by cases h), (fun f M h => by cases h), (fun h => by cases h)⟩
noncomputable def impl_SameOid_l0 (a0 : List Int) (b1 : List Int) (t13 : Int) : Option (Int ⊕ (Unit ⊕ Bool)) :=
  cond (decide (t13 < (a0.length : Int)))
    ((at? a0 t13).bind fun x18 =>
    (at? b1 t13).bind fun x22 =>
    cond (x18 != x22) (some (.inr (.inr false))) (some (.inl (w64 (t13 + 1)))))
    (some (.inr (.inl ())))
noncomputable def impl_SameOid (a0 : List Int) (b1 : List Int) : Option Bool :=
  cond ((a0.length : Int) != (b1.length : Int))
    (some false)
    ((loop (fun z => impl_SameOid_l0 a0 b1 z) 0).bind (Sum.elim (fun d =>
      some true) (fun r => some r)))
noncomputable def F_impl_SameOid : Fn := ⟨[.val false (.one (.sl (.one (.int .i64)))) false, .val false (.one (.sl (.one (.int .i64)))) false], [.val false (.one .bool) true], fun a => impl_SameOid a.1 a.2⟩
def a_impl_SameOid : List (Nat × LoopAnn) := [(0, ⟨⟨[(13, false, [.dat (.int .i64)])], []⟩,
    ⟨[], []⟩, some ⟨[(4, false, [.dat .bool])], []⟩⟩)]
theorem e_impl_SameOid : fnDen ⟨tis, [], [], false⟩ a_impl_SameOid Tryz.f18 (codeOf Tryz.f18) [.val false (.one (.sl (.one (.int .i64)))) false, .val false (.one (.sl (.one (.int .i64)))) false] [.val false (.one .bool) true] = fun a => impl_SameOid a.1 a.2 := by kernel_rfl
theorem m_impl_SameOid : Meets Tryz.prog 18 F_impl_SameOid := by
  have h := meets_of (ann := a_impl_SameOid) (ps := [.val false (.one (.sl (.one (.int .i64)))) false, .val false (.one (.sl (.one (.int .i64)))) false]) (rs := [.val false (.one .bool) true]) g_0 mixed Tryz.func18 (by kernel_rfl) (by kernel_rfl : Tryz.f18.body = some (codeOf Tryz.f18))
  rw [e_impl_SameOid] at h
  exact h
noncomputable def fns_18 : List (FuncId × Fn) := (18, F_impl_SameOid) :: []
theorem g_18 : Good Tryz.prog ⟨tis, fns_18, [], false⟩ := g_0.cons m_impl_SameOid
noncomputable def impl_in (n0 : Int) (low1 : Int) (high2 : Int) : Option Bool :=
  (cond (decide (n0 ≥ low1)) (some (decide (n0 ≤ high2))) (some false)).bind fun t14 =>
  some t14
noncomputable def F_impl_in : Fn := ⟨[.val false (.one (.int .i64)) false, .val false (.one (.int .i64)) false, .val false (.one (.int .i64)) false], [.val false (.one .bool) true], fun a => impl_in a.1 a.2.1 a.2.2⟩
def a_impl_in : List (Nat × LoopAnn) := []
theorem e_impl_in : fnDen ⟨tis, fns_18, [], false⟩ a_impl_in Tryz.f85 (codeOf Tryz.f85) [.val false (.one (.int .i64)) false, .val false (.one (.int .i64)) false, .val false (.one (.int .i64)) false] [.val false (.one .bool) true] = fun a => impl_in a.1 a.2.1 a.2.2 := by kernel_rfl
theorem m_impl_in : Meets Tryz.prog 85 F_impl_in := by
  have h := meets_of (ann := a_impl_in) (ps := [.val false (.one (.int .i64)) false, .val false (.one (.int .i64)) false, .val false (.one (.int .i64)) false]) (rs := [.val false (.one .bool) true]) g_18 mixed Tryz.func85 (by kernel_rfl) (by kernel_rfl : Tryz.f85.body = some (codeOf Tryz.f85))
  rw [e_impl_in] at h
  exact h
noncomputable def fns_85 : List (FuncId × Fn) := (85, F_impl_in) :: fns_18
theorem g_85 : Good Tryz.prog ⟨tis, fns_85, [], false⟩ := g_18.cons m_impl_in
noncomputable def impl_allPorts (ports0 : Int) : Option Int :=
  (shl .i64 1 ports0).bind fun t4 =>
  some (w64 (t4 - 1))
noncomputable def F_impl_allPorts : Fn := ⟨[.val false (.one (.int .i64)) false], [.val false (.one (.int .i64)) true], fun a => impl_allPorts a⟩
def a_impl_allPorts : List (Nat × LoopAnn) := []
theorem e_impl_allPorts : fnDen ⟨tis, fns_85, [], false⟩ a_impl_allPorts Tryz.f206 (codeOf Tryz.f206) [.val false (.one (.int .i64)) false] [.val false (.one (.int .i64)) true] = fun a => impl_allPorts a := by kernel_rfl
theorem m_impl_allPorts : Meets Tryz.prog 206 F_impl_allPorts := by
  have h := meets_of (ann := a_impl_allPorts) (ps := [.val false (.one (.int .i64)) false]) (rs := [.val false (.one (.int .i64)) true]) g_85 mixed Tryz.func206 (by kernel_rfl) (by kernel_rfl : Tryz.f206.body = some (codeOf Tryz.f206))
  rw [e_impl_allPorts] at h
  exact h
noncomputable def fns_206 : List (FuncId × Fn) := (206, F_impl_allPorts) :: fns_85
theorem g_206 : Good Tryz.prog ⟨tis, fns_206, [], false⟩ := g_85.cons m_impl_allPorts
noncomputable def impl_RowAt_l0 (v0 : Vtab) (id1 : Int) (t10 : Int) : Option (Int ⊕ (Unit ⊕ Int)) :=
  cond (decide (t10 < (v0.1.length : Int)))
    ((at? v0.1 t10).bind fun x13 =>
    cond (x13.1 == id1) (some (.inr (.inr t10))) (some (.inl (w64 (t10 + 1)))))
    (some (.inr (.inl ())))
noncomputable def impl_RowAt (v0 : Vtab) (id1 : Int) : Option Int :=
  (loop (fun z => impl_RowAt_l0 v0 id1 z) 0).bind (Sum.elim (fun d =>
    some (-1)) (fun r => some r))
noncomputable def F_impl_RowAt : Fn := ⟨[.val true cVtab false, .val false (.one (.int .i64)) false], [.val false (.one (.int .i64)) true], fun a => impl_RowAt a.1 a.2⟩
def a_impl_RowAt : List (Nat × LoopAnn) := [(0, ⟨⟨[(10, false, [.dat (.int .i64)])], []⟩,
    ⟨[], []⟩, some ⟨[(4, false, [.dat (.int .i64)])], []⟩⟩)]
theorem e_impl_RowAt : fnDen ⟨tis, fns_206, [], false⟩ a_impl_RowAt Tryz.f207 (codeOf Tryz.f207) [.val true cVtab false, .val false (.one (.int .i64)) false] [.val false (.one (.int .i64)) true] = fun a => impl_RowAt a.1 a.2 := by kernel_rfl
theorem m_impl_RowAt : Meets Tryz.prog 207 F_impl_RowAt := by
  have h := meets_of (ann := a_impl_RowAt) (ps := [.val true cVtab false, .val false (.one (.int .i64)) false]) (rs := [.val false (.one (.int .i64)) true]) g_206 mixed Tryz.func207 (by kernel_rfl) (by kernel_rfl : Tryz.f207.body = some (codeOf Tryz.f207))
  rw [e_impl_RowAt] at h
  exact h
noncomputable def fns_207 : List (FuncId × Fn) := (207, F_impl_RowAt) :: fns_206
theorem g_207 : Good Tryz.prog ⟨tis, fns_207, [], false⟩ := g_206.cons m_impl_RowAt
noncomputable def impl_VtabOk_l0 (p0 : Vtab) (i1 : Int) (t28 : Int) : Option (Int ⊕ (Unit ⊕ Bool)) :=
  cond (decide (t28 < (p0.1.length : Int)))
    ((at? p0.1 t28).bind fun x31 =>
    (impl_in x31.1 1 99).bind fun t35 =>
    (cond (!t35)
      (some true)
      ((cond (decide (t28 > 0))
        ((at? p0.1 (w64 (t28 - 1))).bind fun x45 =>
        some (decide (x45.1 ≥ x31.1)))
        (some false)).bind fun t51 =>
      some t51)).bind fun t52 =>
    (cond t52
      (some true)
      ((impl_allPorts i1).bind fun t57 =>
      (impl_in x31.2.1 0 t57).bind fun t58 =>
      some (!t58))).bind fun t60 =>
    (cond t60 (some true) (some ((bclr .i64 x31.2.2 x31.2.1) != 0))).bind fun t68 =>
    cond t68 (some (.inr (.inr false))) (some (.inl (w64 (t28 + 1)))))
    (some (.inr (.inl ())))
noncomputable def impl_VtabOk_l2 (p0 : Vtab) (t73 : Int) : Option (Int ⊕ (Unit ⊕ Bool)) :=
  cond (decide (t73 < (p0.2.length : Int)))
    ((at? p0.2 t73).bind fun x75 =>
    (impl_RowAt p0 x75).bind fun t79 =>
    cond (decide (t79 < 0)) (some (.inr (.inr false))) (some (.inl (w64 (t73 + 1)))))
    (some (.inr (.inl ())))
noncomputable def impl_VtabOk (p0 : Vtab) (i1 : Int) : Option Bool :=
  (impl_in i1 1 6).bind fun t10 =>
  (cond (!t10) (some true) (some ((p0.2.length : Int) != i1))).bind fun t18 =>
  (cond t18 (some true) (some (decide ((p0.1.length : Int) > 6)))).bind fun t24 =>
  cond t24
    (some false)
    ((loop (fun z => impl_VtabOk_l0 p0 i1 z) 0).bind (Sum.elim (fun d =>
      (loop (fun z => impl_VtabOk_l2 p0 z) 0).bind (Sum.elim (fun d_1 =>
        some true) (fun r => some r))) (fun r_1 => some r_1)))
noncomputable def F_impl_VtabOk : Fn := ⟨[.val true cVtab false, .val false (.one (.int .i64)) false], [.val false (.one .bool) true], fun a => impl_VtabOk a.1 a.2⟩
def a_impl_VtabOk : List (Nat × LoopAnn) := [(0, ⟨⟨[(28, false, [.dat (.int .i64)]), (38, false, [.undef]), (39, false, [.undef]), (40, false, [.undef]), (41, false, [.undef]), (42, false, [.undef]), (43, false, [.undef]), (44, false, [.undef]), (45, false, [.undef]), (46, false, [.undef]), (47, false, [.undef]), (48, false, [.undef]), (49, false, [.undef]), (50, false, [.undef]), (51, false, [.undef]), (54, false, [.undef]), (55, false, [.undef]), (56, false, [.undef]), (57, false, [.undef]), (58, false, [.undef]), (59, false, [.undef]), (62, false, [.undef]), (63, false, [.undef]), (64, false, [.undef]), (65, false, [.undef]), (66, false, [.undef]), (67, false, [.undef])], []⟩,
    ⟨[], []⟩, some ⟨[(4, false, [.dat .bool])], []⟩⟩),
  (2, ⟨⟨[(73, false, [.dat (.int .i64)])], []⟩,
    ⟨[], []⟩, some ⟨[(4, false, [.dat .bool])], []⟩⟩)]
theorem e_impl_VtabOk : fnDen ⟨tis, fns_207, [], false⟩ a_impl_VtabOk Tryz.f91 (codeOf Tryz.f91) [.val true cVtab false, .val false (.one (.int .i64)) false] [.val false (.one .bool) true] = fun a => impl_VtabOk a.1 a.2 := by kernel_rfl
theorem m_impl_VtabOk : Meets Tryz.prog 91 F_impl_VtabOk := by
  have h := meets_of (ann := a_impl_VtabOk) (ps := [.val true cVtab false, .val false (.one (.int .i64)) false]) (rs := [.val false (.one .bool) true]) g_207 mixed Tryz.func91 (by kernel_rfl) (by kernel_rfl : Tryz.f91.body = some (codeOf Tryz.f91))
  rw [e_impl_VtabOk] at h
  exact h
noncomputable def fns_91 : List (FuncId × Fn) := (91, F_impl_VtabOk) :: fns_207
theorem g_91 : Good Tryz.prog ⟨tis, fns_91, [], false⟩ := g_207.cons m_impl_VtabOk
noncomputable def impl_VecOk (v0 : Vec) : Option Bool :=
  (impl_in v0.1 1 99).bind fun t5 =>
  (cond t5
    ((impl_in v0.2.1 0 100000).bind fun t9 =>
    some t9)
    (some false)).bind fun t10 =>
  (cond t10
    ((impl_in v0.2.2.1 0 10).bind fun t14 =>
    some t14)
    (some false)).bind fun t15 =>
  (cond t15
    ((impl_in v0.2.2.2.1 1 99).bind fun t19 =>
    some t19)
    (some false)).bind fun t20 =>
  (cond t20
    ((impl_in v0.2.2.2.2 0 7).bind fun t24 =>
    some t24)
    (some false)).bind fun t25 =>
  some t25
noncomputable def F_impl_VecOk : Fn := ⟨[.val true cVec false], [.val false (.one .bool) true], fun a => impl_VecOk a⟩
def a_impl_VecOk : List (Nat × LoopAnn) := []
theorem e_impl_VecOk : fnDen ⟨tis, fns_91, [], false⟩ a_impl_VecOk Tryz.f163 (codeOf Tryz.f163) [.val true cVec false] [.val false (.one .bool) true] = fun a => impl_VecOk a := by kernel_rfl
theorem m_impl_VecOk : Meets Tryz.prog 163 F_impl_VecOk := by
  have h := meets_of (ann := a_impl_VecOk) (ps := [.val true cVec false]) (rs := [.val false (.one .bool) true]) g_91 mixed Tryz.func163 (by kernel_rfl) (by kernel_rfl : Tryz.f163.body = some (codeOf Tryz.f163))
  rw [e_impl_VecOk] at h
  exact h
noncomputable def fns_163 : List (FuncId × Fn) := (163, F_impl_VecOk) :: fns_91
theorem g_163 : Good Tryz.prog ⟨tis, fns_163, [], false⟩ := g_91.cons m_impl_VecOk
noncomputable def impl_PtOk (p0 : Pt) : Option Bool :=
  (impl_in p0.2.1 1 1000).bind fun t5 =>
  (cond (!t5)
    (some true)
    ((cond p0.2.2.1 (some (!p0.1)) (some false)).bind fun t14 =>
    some t14)).bind fun t15 =>
  cond t15
    (some false)
    (cond p0.2.2.1
      ((impl_VecOk p0.2.2.2).bind fun t20 =>
      some t20)
      (let t2 := p0.2.2.2.1 == 0 && (p0.2.2.2.2.1 == 0 && (p0.2.2.2.2.2.1 == 0 && (p0.2.2.2.2.2.2.1 == 0 && (p0.2.2.2.2.2.2.2 == 0))))
      some t2))
noncomputable def F_impl_PtOk : Fn := ⟨[.val true cPt false], [.val false (.one .bool) true], fun a => impl_PtOk a⟩
def a_impl_PtOk : List (Nat × LoopAnn) := []
theorem e_impl_PtOk : fnDen ⟨tis, fns_163, [], false⟩ a_impl_PtOk Tryz.f100 (codeOf Tryz.f100) [.val true cPt false] [.val false (.one .bool) true] = fun a => impl_PtOk a := by kernel_rfl
theorem m_impl_PtOk : Meets Tryz.prog 100 F_impl_PtOk := by
  have h := meets_of (ann := a_impl_PtOk) (ps := [.val true cPt false]) (rs := [.val false (.one .bool) true]) g_163 mixed Tryz.func100 (by kernel_rfl) (by kernel_rfl : Tryz.f100.body = some (codeOf Tryz.f100))
  rw [e_impl_PtOk] at h
  exact h
noncomputable def fns_100 : List (FuncId × Fn) := (100, F_impl_PtOk) :: fns_163
theorem g_100 : Good Tryz.prog ⟨tis, fns_100, [], false⟩ := g_163.cons m_impl_PtOk
noncomputable def impl_fentOk (e0 : Fent) : Option Bool :=
  (impl_in e0.1 1 99).bind fun t5 =>
  (cond t5
    ((impl_in e0.2.1 1 9999).bind fun t9 =>
    some t9)
    (some false)).bind fun t10 =>
  (cond t10
    ((impl_in e0.2.2.1 0 7).bind fun t14 =>
    some t14)
    (some false)).bind fun t15 =>
  (cond t15
    ((impl_in e0.2.2.2.1 0 4).bind fun t19 =>
    some t19)
    (some false)).bind fun t20 =>
  (cond t20
    ((cond (!e0.2.2.2.2) (some true) (some (e0.2.2.2.1 == 0))).bind fun t29 =>
    some t29)
    (some false)).bind fun t30 =>
  some t30
noncomputable def F_impl_fentOk : Fn := ⟨[.val true cFent false], [.val false (.one .bool) true], fun a => impl_fentOk a⟩
def a_impl_fentOk : List (Nat × LoopAnn) := []
theorem e_impl_fentOk : fnDen ⟨tis, fns_100, [], false⟩ a_impl_fentOk Tryz.f224 (codeOf Tryz.f224) [.val true cFent false] [.val false (.one .bool) true] = fun a => impl_fentOk a := by kernel_rfl
theorem m_impl_fentOk : Meets Tryz.prog 224 F_impl_fentOk := by
  have h := meets_of (ann := a_impl_fentOk) (ps := [.val true cFent false]) (rs := [.val false (.one .bool) true]) g_100 mixed Tryz.func224 (by kernel_rfl) (by kernel_rfl : Tryz.f224.body = some (codeOf Tryz.f224))
  rw [e_impl_fentOk] at h
  exact h
noncomputable def fns_224 : List (FuncId × Fn) := (224, F_impl_fentOk) :: fns_100
theorem g_224 : Good Tryz.prog ⟨tis, fns_224, [], false⟩ := g_100.cons m_impl_fentOk
noncomputable def impl_behind (e0 : Fent) (tag1 : Int) (mac2 : Int) : Option Bool :=
  (cond (decide (e0.1 > tag1))
    (some true)
    ((cond (e0.1 == tag1) (some (decide (e0.2.1 > mac2))) (some false)).bind fun t21 =>
    some t21)).bind fun t22 =>
  some t22
noncomputable def F_impl_behind : Fn := ⟨[.val true cFent false, .val false (.one (.int .i64)) false, .val false (.one (.int .i64)) false], [.val false (.one .bool) true], fun a => impl_behind a.1 a.2.1 a.2.2⟩
def a_impl_behind : List (Nat × LoopAnn) := []
theorem e_impl_behind : fnDen ⟨tis, fns_224, [], false⟩ a_impl_behind Tryz.f225 (codeOf Tryz.f225) [.val true cFent false, .val false (.one (.int .i64)) false, .val false (.one (.int .i64)) false] [.val false (.one .bool) true] = fun a => impl_behind a.1 a.2.1 a.2.2 := by kernel_rfl
theorem m_impl_behind : Meets Tryz.prog 225 F_impl_behind := by
  have h := meets_of (ann := a_impl_behind) (ps := [.val true cFent false, .val false (.one (.int .i64)) false, .val false (.one (.int .i64)) false]) (rs := [.val false (.one .bool) true]) g_224 mixed Tryz.func225 (by kernel_rfl) (by kernel_rfl : Tryz.f225.body = some (codeOf Tryz.f225))
  rw [e_impl_behind] at h
  exact h
noncomputable def fns_225 : List (FuncId × Fn) := (225, F_impl_behind) :: fns_224
theorem g_225 : Good Tryz.prog ⟨tis, fns_225, [], false⟩ := g_224.cons m_impl_behind
noncomputable def impl_FdbOk_l0 (l0 : List Fent) (t7 : Int) : Option (Int ⊕ (Unit ⊕ Bool)) :=
  cond (decide (t7 < (l0.length : Int)))
    ((at? l0 t7).bind fun x10 =>
    (impl_fentOk x10).bind fun t13 =>
    (cond (!t13)
      (some true)
      ((cond (decide (t7 > 0))
        ((at? l0 (w64 (t7 - 1))).bind fun x23 =>
        (at? l0 (w64 (t7 - 1))).bind fun x29 =>
        (impl_behind x10 x23.1 x29.2.1).bind fun t32 =>
        some (!t32))
        (some false)).bind fun t34 =>
      some t34)).bind fun t35 =>
    cond t35 (some (.inr (.inr false))) (some (.inl (w64 (t7 + 1)))))
    (some (.inr (.inl ())))
noncomputable def impl_FdbOk (l0 : List Fent) : Option Bool :=
  (loop (fun z => impl_FdbOk_l0 l0 z) 0).bind (Sum.elim (fun d =>
    let t2 := decide ((l0.length : Int) ≤ 12)
    some t2) (fun r => some r))
noncomputable def F_impl_FdbOk : Fn := ⟨[.val false (.one (.sl cFent)) false], [.val false (.one .bool) true], fun a => impl_FdbOk a⟩
def a_impl_FdbOk : List (Nat × LoopAnn) := [(0, ⟨⟨[(7, false, [.dat (.int .i64)]), (16, false, [.undef]), (17, false, [.undef]), (18, false, [.undef]), (19, false, [.undef]), (20, false, [.undef]), (21, false, [.undef]), (22, false, [.undef]), (23, false, [.undef]), (24, false, [.undef]), (25, false, [.undef]), (26, false, [.undef]), (27, false, [.undef]), (28, false, [.undef]), (29, false, [.undef]), (30, false, [.undef]), (31, false, [.undef]), (32, false, [.undef]), (33, false, [.undef]), (34, false, [.undef])], []⟩,
    ⟨[], []⟩, some ⟨[(2, false, [.dat .bool])], []⟩⟩)]
theorem e_impl_FdbOk : fnDen ⟨tis, fns_225, [], false⟩ a_impl_FdbOk Tryz.f101 (codeOf Tryz.f101) [.val false (.one (.sl cFent)) false] [.val false (.one .bool) true] = fun a => impl_FdbOk a := by kernel_rfl
theorem m_impl_FdbOk : Meets Tryz.prog 101 F_impl_FdbOk := by
  have h := meets_of (ann := a_impl_FdbOk) (ps := [.val false (.one (.sl cFent)) false]) (rs := [.val false (.one .bool) true]) g_225 mixed Tryz.func101 (by kernel_rfl) (by kernel_rfl : Tryz.f101.body = some (codeOf Tryz.f101))
  rw [e_impl_FdbOk] at h
  exact h
noncomputable def fns_101 : List (FuncId × Fn) := (101, F_impl_FdbOk) :: fns_225
theorem g_101 : Good Tryz.prog ⟨tis, fns_101, [], false⟩ := g_225.cons m_impl_FdbOk
noncomputable def impl_isCount (n0 : Int) : Option Bool :=
  (impl_in n0 0 1000000).bind fun t4 =>
  some t4
noncomputable def F_impl_isCount : Fn := ⟨[.val false (.one (.int .i64)) false], [.val false (.one .bool) true], fun a => impl_isCount a⟩
def a_impl_isCount : List (Nat × LoopAnn) := []
theorem e_impl_isCount : fnDen ⟨tis, fns_101, [], false⟩ a_impl_isCount Tryz.f102 (codeOf Tryz.f102) [.val false (.one (.int .i64)) false] [.val false (.one .bool) true] = fun a => impl_isCount a := by kernel_rfl
theorem m_impl_isCount : Meets Tryz.prog 102 F_impl_isCount := by
  have h := meets_of (ann := a_impl_isCount) (ps := [.val false (.one (.int .i64)) false]) (rs := [.val false (.one .bool) true]) g_101 mixed Tryz.func102 (by kernel_rfl) (by kernel_rfl : Tryz.f102.body = some (codeOf Tryz.f102))
  rw [e_impl_isCount] at h
  exact h
noncomputable def fns_102 : List (FuncId × Fn) := (102, F_impl_isCount) :: fns_101
theorem g_102 : Good Tryz.prog ⟨tis, fns_102, [], false⟩ := g_101.cons m_impl_isCount
noncomputable def impl_BridgeOk_l0 (p0 : Bridge) (t8 : Int) : Option (Int ⊕ (Unit ⊕ Bool)) :=
  cond (decide (t8 < (p0.2.2.1.length : Int)))
    ((at? p0.2.2.1 t8).bind fun x10 =>
    (impl_PtOk x10).bind fun t13 =>
    cond (!t13) (some (.inr (.inr false))) (some (.inl (w64 (t8 + 1)))))
    (some (.inr (.inl ())))
noncomputable def impl_BridgeOk (p0 : Bridge) : Option Bool :=
  (loop (fun z => impl_BridgeOk_l0 p0 z) 0).bind (Sum.elim (fun d =>
    (impl_in p0.1 1 99).bind fun t18 =>
    (cond (!t18) (some true) (some (decide ((p0.2.1.length : Int) > 10)))).bind fun t25 =>
    (cond t25
      (some true)
      ((impl_in (p0.2.2.1.length : Int) 1 6).bind fun t30 =>
      some (!t30))).bind fun t32 =>
    (cond t32
      (some true)
      ((impl_FdbOk p0.2.2.2.1).bind fun t36 =>
      some (!t36))).bind fun t38 =>
    (cond t38
      (some true)
      ((impl_VtabOk (p0.2.2.2.2.1, p0.2.2.2.2.2.1) (p0.2.2.1.length : Int)).bind fun t45 =>
      some (!t45))).bind fun t47 =>
    cond t47
      (some false)
      ((impl_isCount p0.2.2.2.2.2.2.1).bind fun t50 =>
      (cond t50
        ((impl_isCount p0.2.2.2.2.2.2.2.1).bind fun t54 =>
        some t54)
        (some false)).bind fun t55 =>
      (cond t55
        ((impl_isCount p0.2.2.2.2.2.2.2.2.1).bind fun t59 =>
        some t59)
        (some false)).bind fun t60 =>
      (cond t60
        ((impl_isCount p0.2.2.2.2.2.2.2.2.2.1).bind fun t64 =>
        some t64)
        (some false)).bind fun t65 =>
      (cond t65
        ((impl_isCount p0.2.2.2.2.2.2.2.2.2.2).bind fun t69 =>
        some t69)
        (some false)).bind fun t70 =>
      some t70)) (fun r => some r))
noncomputable def F_impl_BridgeOk : Fn := ⟨[.val true cBridge false], [.val false (.one .bool) true], fun a => impl_BridgeOk a⟩
def a_impl_BridgeOk : List (Nat × LoopAnn) := [(0, ⟨⟨[(8, false, [.dat (.int .i64)])], []⟩,
    ⟨[], []⟩, some ⟨[(2, false, [.dat .bool])], []⟩⟩)]
theorem e_impl_BridgeOk : fnDen ⟨tis, fns_102, [], false⟩ a_impl_BridgeOk Tryz.f27 (codeOf Tryz.f27) [.val true cBridge false] [.val false (.one .bool) true] = fun a => impl_BridgeOk a := by kernel_rfl
theorem m_impl_BridgeOk : Meets Tryz.prog 27 F_impl_BridgeOk := by
  have h := meets_of (ann := a_impl_BridgeOk) (ps := [.val true cBridge false]) (rs := [.val false (.one .bool) true]) g_102 mixed Tryz.func27 (by kernel_rfl) (by kernel_rfl : Tryz.f27.body = some (codeOf Tryz.f27))
  rw [e_impl_BridgeOk] at h
  exact h
noncomputable def fns_27 : List (FuncId × Fn) := (27, F_impl_BridgeOk) :: fns_102
theorem g_27 : Good Tryz.prog ⟨tis, fns_27, [], false⟩ := g_102.cons m_impl_BridgeOk
noncomputable def impl_copyFdb (l0 : List Fent) : Option (List Fent) :=
  (app [] l0).bind fun zs4 =>
  some zs4
noncomputable def F_impl_copyFdb : Fn := ⟨[.val false (.one (.sl cFent)) false], [.val false (.one (.sl cFent)) true], fun a => impl_copyFdb a⟩
def a_impl_copyFdb : List (Nat × LoopAnn) := []
theorem e_impl_copyFdb : fnDen ⟨tis, fns_27, [], false⟩ a_impl_copyFdb Tryz.f192 (codeOf Tryz.f192) [.val false (.one (.sl cFent)) false] [.val false (.one (.sl cFent)) true] = fun a => impl_copyFdb a := by kernel_rfl
theorem m_impl_copyFdb : Meets Tryz.prog 192 F_impl_copyFdb := by
  have h := meets_of (ann := a_impl_copyFdb) (ps := [.val false (.one (.sl cFent)) false]) (rs := [.val false (.one (.sl cFent)) true]) g_27 mixed Tryz.func192 (by kernel_rfl) (by kernel_rfl : Tryz.f192.body = some (codeOf Tryz.f192))
  rw [e_impl_copyFdb] at h
  exact h
noncomputable def fns_192 : List (FuncId × Fn) := (192, F_impl_copyFdb) :: fns_27
theorem g_192 : Good Tryz.prog ⟨tis, fns_192, [], false⟩ := g_27.cons m_impl_copyFdb
noncomputable def impl_copyInts (l0 : List Int) : Option (List Int) :=
  (app [] l0).bind fun zs4 =>
  some zs4
noncomputable def F_impl_copyInts : Fn := ⟨[.val false (.one (.sl (.one (.int .i64)))) false], [.val false (.one (.sl (.one (.int .i64)))) true], fun a => impl_copyInts a⟩
def a_impl_copyInts : List (Nat × LoopAnn) := []
theorem e_impl_copyInts : fnDen ⟨tis, fns_192, [], false⟩ a_impl_copyInts Tryz.f82 (codeOf Tryz.f82) [.val false (.one (.sl (.one (.int .i64)))) false] [.val false (.one (.sl (.one (.int .i64)))) true] = fun a => impl_copyInts a := by kernel_rfl
theorem m_impl_copyInts : Meets Tryz.prog 82 F_impl_copyInts := by
  have h := meets_of (ann := a_impl_copyInts) (ps := [.val false (.one (.sl (.one (.int .i64)))) false]) (rs := [.val false (.one (.sl (.one (.int .i64)))) true]) g_192 mixed Tryz.func82 (by kernel_rfl) (by kernel_rfl : Tryz.f82.body = some (codeOf Tryz.f82))
  rw [e_impl_copyInts] at h
  exact h
noncomputable def fns_82 : List (FuncId × Fn) := (82, F_impl_copyInts) :: fns_192
theorem g_82 : Good Tryz.prog ⟨tis, fns_82, [], false⟩ := g_192.cons m_impl_copyInts
noncomputable def impl_copyVtab (v0 : Vtab) : Option Vtab :=
  (app [] v0.1).bind fun zs5 =>
  (impl_copyInts v0.2).bind fun t8 =>
  some (zs5, t8)
noncomputable def F_impl_copyVtab : Fn := ⟨[.val true cVtab false], [.val true cVtab true], fun a => impl_copyVtab a⟩
def a_impl_copyVtab : List (Nat × LoopAnn) := []
theorem e_impl_copyVtab : fnDen ⟨tis, fns_82, [], false⟩ a_impl_copyVtab Tryz.f193 (codeOf Tryz.f193) [.val true cVtab false] [.val true cVtab true] = fun a => impl_copyVtab a := by kernel_rfl
theorem m_impl_copyVtab : Meets Tryz.prog 193 F_impl_copyVtab := by
  have h := meets_of (ann := a_impl_copyVtab) (ps := [.val true cVtab false]) (rs := [.val true cVtab true]) g_82 mixed Tryz.func193 (by kernel_rfl) (by kernel_rfl : Tryz.f193.body = some (codeOf Tryz.f193))
  rw [e_impl_copyVtab] at h
  exact h
noncomputable def fns_193 : List (FuncId × Fn) := (193, F_impl_copyVtab) :: fns_82
theorem g_193 : Good Tryz.prog ⟨tis, fns_193, [], false⟩ := g_82.cons m_impl_copyVtab
noncomputable def impl_copyBridge (b0 : Bridge) : Option Bridge :=
  (app [] b0.2.2.1).bind fun zs5 =>
  (impl_copyFdb b0.2.2.2.1).bind fun t9 =>
  (impl_copyVtab (b0.2.2.2.2.1, b0.2.2.2.2.2.1)).bind fun t12 =>
  some (b0.1, b0.2.1, zs5, t9, t12.1, t12.2, b0.2.2.2.2.2.2.1, b0.2.2.2.2.2.2.2.1, b0.2.2.2.2.2.2.2.2.1, b0.2.2.2.2.2.2.2.2.2.1, b0.2.2.2.2.2.2.2.2.2.2)
noncomputable def F_impl_copyBridge : Fn := ⟨[.val true cBridge false], [.val true cBridge true], fun a => impl_copyBridge a⟩
def a_impl_copyBridge : List (Nat × LoopAnn) := []
theorem e_impl_copyBridge : fnDen ⟨tis, fns_193, [], false⟩ a_impl_copyBridge Tryz.f80 (codeOf Tryz.f80) [.val true cBridge false] [.val true cBridge true] = fun a => impl_copyBridge a := by kernel_rfl
theorem m_impl_copyBridge : Meets Tryz.prog 80 F_impl_copyBridge := by
  have h := meets_of (ann := a_impl_copyBridge) (ps := [.val true cBridge false]) (rs := [.val true cBridge true]) g_193 mixed Tryz.func80 (by kernel_rfl) (by kernel_rfl : Tryz.f80.body = some (codeOf Tryz.f80))
  rw [e_impl_copyBridge] at h
  exact h
noncomputable def fns_80 : List (FuncId × Fn) := (80, F_impl_copyBridge) :: fns_193
theorem g_80 : Good Tryz.prog ⟨tis, fns_80, [], false⟩ := g_193.cons m_impl_copyBridge
noncomputable def impl_numbered (o0 : List Int) (low1 : Int) (high2 : Int) (head3 : List Int) : Option Bool :=
  cond ((o0.length : Int) == (w64 ((head3.length : Int) + 4)))
    ((cut o0 0 (w64 ((o0.length : Int) - 1))).bind fun t20 =>
    (app ([1, 3, 1] : List Int) head3).bind fun zs23 =>
    (impl_SameOid t20 zs23).bind fun t24 =>
    (cond t24
      ((at? o0 (w64 ((o0.length : Int) - 1))).bind fun x31 =>
      (impl_in x31 low1 high2).bind fun t35 =>
      some t35)
      (some false)).bind fun t36 =>
    some t36)
    ((some false).bind fun t36_1 =>
    some t36_1)
noncomputable def F_impl_numbered : Fn := ⟨[.val false (.one (.sl (.one (.int .i64)))) false, .val false (.one (.int .i64)) false, .val false (.one (.int .i64)) false, .val false (.one (.sl (.one (.int .i64)))) false], [.val false (.one .bool) true], fun a => impl_numbered a.1 a.2.1 a.2.2.1 a.2.2.2⟩
def a_impl_numbered : List (Nat × LoopAnn) := []
theorem e_impl_numbered : fnDen ⟨tis, fns_80, [], false⟩ a_impl_numbered Tryz.f307 (codeOf Tryz.f307) [.val false (.one (.sl (.one (.int .i64)))) false, .val false (.one (.int .i64)) false, .val false (.one (.int .i64)) false, .val false (.one (.sl (.one (.int .i64)))) false] [.val false (.one .bool) true] = fun a => impl_numbered a.1 a.2.1 a.2.2.1 a.2.2.2 := by kernel_rfl
theorem m_impl_numbered : Meets Tryz.prog 307 F_impl_numbered := by
  have h := meets_of (ann := a_impl_numbered) (ps := [.val false (.one (.sl (.one (.int .i64)))) false, .val false (.one (.int .i64)) false, .val false (.one (.int .i64)) false, .val false (.one (.sl (.one (.int .i64)))) false]) (rs := [.val false (.one .bool) true]) g_80 mixed Tryz.func307 (by kernel_rfl) (by kernel_rfl : Tryz.f307.body = some (codeOf Tryz.f307))
  rw [e_impl_numbered] at h
  exact h
noncomputable def fns_307 : List (FuncId × Fn) := (307, F_impl_numbered) :: fns_80
theorem g_307 : Good Tryz.prog ⟨tis, fns_307, [], false⟩ := g_80.cons m_impl_numbered
noncomputable def impl_canSet (b0 : Bridge) (o1 : List Int) : Option Bool :=
  (impl_numbered o1 1 1 ([1] : List Int)).bind fun t11 =>
  (cond t11
    (some true)
    ((impl_numbered o1 1 (b0.2.2.1.length : Int) ([2, 2] : List Int)).bind fun t16 =>
    some t16)).bind fun t17 =>
  (cond t17
    (some true)
    ((impl_numbered o1 1 (b0.2.2.1.length : Int) ([2, 4] : List Int)).bind fun t22 =>
    some t22)).bind fun t23 =>
  (cond t23
    (some true)
    ((impl_numbered o1 1 99 ([3, 1] : List Int)).bind fun t27 =>
    some t27)).bind fun t28 =>
  cond t28
    (some true)
    ((impl_numbered o1 1 99 ([3, 2] : List Int)).bind fun t31 =>
    (cond t31
      (some true)
      ((impl_numbered o1 1 99 ([3, 3] : List Int)).bind fun t35 =>
      some t35)).bind fun t36 =>
    (cond t36
      ((at? o1 5).bind fun x41 =>
      (impl_RowAt (b0.2.2.2.2.1, b0.2.2.2.2.2.1) x41).bind fun t43 =>
      some (decide (t43 ≥ 0)))
      (some false)).bind fun t45 =>
    some t45)
noncomputable def F_impl_canSet : Fn := ⟨[.val true cBridge false, .val false (.one (.sl (.one (.int .i64)))) false], [.val false (.one .bool) true], fun a => impl_canSet a.1 a.2⟩
def a_impl_canSet : List (Nat × LoopAnn) := []
theorem e_impl_canSet : fnDen ⟨tis, fns_307, [], false⟩ a_impl_canSet Tryz.f203 (codeOf Tryz.f203) [.val true cBridge false, .val false (.one (.sl (.one (.int .i64)))) false] [.val false (.one .bool) true] = fun a => impl_canSet a.1 a.2 := by kernel_rfl
theorem m_impl_canSet : Meets Tryz.prog 203 F_impl_canSet := by
  have h := meets_of (ann := a_impl_canSet) (ps := [.val true cBridge false, .val false (.one (.sl (.one (.int .i64)))) false]) (rs := [.val false (.one .bool) true]) g_307 mixed Tryz.func203 (by kernel_rfl) (by kernel_rfl : Tryz.f203.body = some (codeOf Tryz.f203))
  rw [e_impl_canSet] at h
  exact h
noncomputable def fns_203 : List (FuncId × Fn) := (203, F_impl_canSet) :: fns_307
theorem g_203 : Good Tryz.prog ⟨tis, fns_203, [], false⟩ := g_307.cons m_impl_canSet
noncomputable def impl_withRow_l0 (v0 : Vtab) (r1 : Vrow) (k7 : Int) : Option (Int ⊕ Int) :=
  (cond (decide (k7 < (v0.1.length : Int)))
    ((at? v0.1 k7).bind fun x31 =>
    some (decide (x31.1 ≤ r1.1)))
    (some false)).bind fun t37 =>
  cond t37 (some (.inl (w64 (k7 + 1)))) (some (.inr k7))
noncomputable def impl_withRow (v0 : Vtab) (r1 : Vrow) : Option Vtab :=
  (impl_copyVtab v0).bind fun t9 =>
  (impl_RowAt v0 r1.1).bind fun t13 =>
  cond (decide (t13 ≥ 0))
    ((ix t9.1.length t13).bind fun j20 =>
    (t9.1[j20]?).bind fun x =>
    some (t9.1.set j20 r1, t9.2))
    ((loop (fun z => impl_withRow_l0 v0 r1 z) 0).bind fun d =>
    (cut v0.1 0 d).bind fun t43 =>
    (app [] t43).bind fun zs44 =>
    (app zs44 [r1]).bind fun zs47 =>
    (cut v0.1 d (v0.1.length : Int)).bind fun t51 =>
    (app zs47 t51).bind fun zs52 =>
    some (zs52, t9.2))
noncomputable def F_impl_withRow : Fn := ⟨[.val true cVtab false, .val true cVrow false], [.val true cVtab true], fun a => impl_withRow a.1 a.2⟩
def a_impl_withRow : List (Nat × LoopAnn) := [(0, ⟨⟨[(7, false, [.dat (.int .i64)]), (28, false, [.undef]), (29, false, [.undef]), (30, false, [.undef]), (31, false, [.undef]), (32, false, [.undef]), (33, false, [.undef]), (34, false, [.undef]), (35, false, [.undef]), (36, false, [.undef])], []⟩,
    ⟨[(7, false, [.dat (.int .i64)])], []⟩, none⟩)]
theorem e_impl_withRow : fnDen ⟨tis, fns_203, [], false⟩ a_impl_withRow Tryz.f353 (codeOf Tryz.f353) [.val true cVtab false, .val true cVrow false] [.val true cVtab true] = fun a => impl_withRow a.1 a.2 := by kernel_rfl
theorem m_impl_withRow : Meets Tryz.prog 353 F_impl_withRow := by
  have h := meets_of (ann := a_impl_withRow) (ps := [.val true cVtab false, .val true cVrow false]) (rs := [.val true cVtab true]) g_203 mixed Tryz.func353 (by kernel_rfl) (by kernel_rfl : Tryz.f353.body = some (codeOf Tryz.f353))
  rw [e_impl_withRow] at h
  exact h
noncomputable def fns_353 : List (FuncId × Fn) := (353, F_impl_withRow) :: fns_203
theorem g_353 : Good Tryz.prog ⟨tis, fns_353, [], false⟩ := g_203.cons m_impl_withRow
noncomputable def impl_withoutRow (v0 : Vtab) (id1 : Int) : Option Vtab :=
  (impl_copyVtab v0).bind fun t8 =>
  (impl_RowAt v0 id1).bind fun t11 =>
  cond (decide (t11 ≥ 0))
    ((cut v0.1 0 t11).bind fun t17 =>
    (app [] t17).bind fun zs18 =>
    (cut v0.1 (w64 (t11 + 1)) (v0.1.length : Int)).bind fun t23 =>
    (app zs18 t23).bind fun zs24 =>
    some (zs24, t8.2))
    (some t8)
noncomputable def F_impl_withoutRow : Fn := ⟨[.val true cVtab false, .val false (.one (.int .i64)) false], [.val true cVtab true], fun a => impl_withoutRow a.1 a.2⟩
def a_impl_withoutRow : List (Nat × LoopAnn) := []
theorem e_impl_withoutRow : fnDen ⟨tis, fns_353, [], false⟩ a_impl_withoutRow Tryz.f354 (codeOf Tryz.f354) [.val true cVtab false, .val false (.one (.int .i64)) false] [.val true cVtab true] = fun a => impl_withoutRow a.1 a.2 := by kernel_rfl
theorem m_impl_withoutRow : Meets Tryz.prog 354 F_impl_withoutRow := by
  have h := meets_of (ann := a_impl_withoutRow) (ps := [.val true cVtab false, .val false (.one (.int .i64)) false]) (rs := [.val true cVtab true]) g_353 mixed Tryz.func354 (by kernel_rfl) (by kernel_rfl : Tryz.f354.body = some (codeOf Tryz.f354))
  rw [e_impl_withoutRow] at h
  exact h
noncomputable def fns_354 : List (FuncId × Fn) := (354, F_impl_withoutRow) :: fns_353
theorem g_354 : Good Tryz.prog ⟨tis, fns_354, [], false⟩ := g_353.cons m_impl_withoutRow
noncomputable def impl_Bridge_setRow (p0 : Bridge) (i1 : Int) (a2 : Int) (a3 : Int) : Option (Bridge × Int) :=
  (impl_RowAt (p0.2.2.2.2.1, p0.2.2.2.2.2.1) a2).bind fun t15 =>
  cond (i1 == 1)
    ((cond (a3 == 4) (some (decide (t15 < 0))) (some false)).bind fun t24 =>
    (cond t24 (some (decide ((p0.2.2.2.2.1.length : Int) < 6))) (some false)).bind fun t33 =>
    cond t33
      ((impl_withRow (p0.2.2.2.2.1, p0.2.2.2.2.2.1) (a2, 0, 0)).bind fun t41 =>
      some ((p0.1, p0.2.1, p0.2.2.1, p0.2.2.2.1, t41.1, t41.2, p0.2.2.2.2.2.2.1, p0.2.2.2.2.2.2.2.1, p0.2.2.2.2.2.2.2.2.1, p0.2.2.2.2.2.2.2.2.2.1, p0.2.2.2.2.2.2.2.2.2.2), 0))
      ((cond (a3 == 6) (some (decide (t15 ≥ 0))) (some false)).bind fun t50 =>
      cond t50
        ((impl_withoutRow (p0.2.2.2.2.1, p0.2.2.2.2.2.1) a2).bind fun t57 =>
        some ((p0.1, p0.2.1, p0.2.2.1, p0.2.2.2.1, t57.1, t57.2, p0.2.2.2.2.2.2.1, p0.2.2.2.2.2.2.2.1, p0.2.2.2.2.2.2.2.2.1, p0.2.2.2.2.2.2.2.2.2.1, p0.2.2.2.2.2.2.2.2.2.2), 0))
        (some (p0, 2))))
    ((impl_allPorts (p0.2.2.1.length : Int)).bind fun t66 =>
    (impl_in a3 0 t66).bind fun t67 =>
    cond (!t67)
      (some (p0, 2))
      (cond (i1 == 2)
        ((ix p0.2.2.2.2.1.length t15).bind fun j78 =>
        (p0.2.2.2.2.1[j78]?).bind fun x =>
        some ((p0.1, p0.2.1, p0.2.2.1, p0.2.2.2.1, p0.2.2.2.2.1.set j78 (x.1, a3, x.2.2), p0.2.2.2.2.2.1, p0.2.2.2.2.2.2.1, p0.2.2.2.2.2.2.2.1, p0.2.2.2.2.2.2.2.2.1, p0.2.2.2.2.2.2.2.2.2.1, p0.2.2.2.2.2.2.2.2.2.2), 0))
        ((ix p0.2.2.2.2.1.length t15).bind fun j87 =>
        (p0.2.2.2.2.1[j87]?).bind fun x_1 =>
        some ((p0.1, p0.2.1, p0.2.2.1, p0.2.2.2.1, p0.2.2.2.2.1.set j87 (x_1.1, x_1.2.1, a3), p0.2.2.2.2.2.1, p0.2.2.2.2.2.2.1, p0.2.2.2.2.2.2.2.1, p0.2.2.2.2.2.2.2.2.1, p0.2.2.2.2.2.2.2.2.2.1, p0.2.2.2.2.2.2.2.2.2.2), 0))))
noncomputable def F_impl_Bridge_setRow : Fn := ⟨[.ptr cBridge true, .val false (.one (.int .i64)) false, .val false (.one (.int .i64)) false, .val false (.one (.int .i64)) false], [.val false (.one (.int .i64)) true], fun a => impl_Bridge_setRow a.1 a.2.1 a.2.2.1 a.2.2.2⟩
def a_impl_Bridge_setRow : List (Nat × LoopAnn) := []
theorem e_impl_Bridge_setRow : fnDen ⟨tis, fns_354, [], false⟩ a_impl_Bridge_setRow Tryz.f308 (codeOf Tryz.f308) [.ptr cBridge true, .val false (.one (.int .i64)) false, .val false (.one (.int .i64)) false, .val false (.one (.int .i64)) false] [.val false (.one (.int .i64)) true] = fun a => impl_Bridge_setRow a.1 a.2.1 a.2.2.1 a.2.2.2 := by kernel_rfl
theorem m_impl_Bridge_setRow : Meets Tryz.prog 308 F_impl_Bridge_setRow := by
  have h := meets_of (ann := a_impl_Bridge_setRow) (ps := [.ptr cBridge true, .val false (.one (.int .i64)) false, .val false (.one (.int .i64)) false, .val false (.one (.int .i64)) false]) (rs := [.val false (.one (.int .i64)) true]) g_354 mixed Tryz.func308 (by kernel_rfl) (by kernel_rfl : Tryz.f308.body = some (codeOf Tryz.f308))
  rw [e_impl_Bridge_setRow] at h
  exact h
noncomputable def fns_308 : List (FuncId × Fn) := (308, F_impl_Bridge_setRow) :: fns_354
theorem g_308 : Good Tryz.prog ⟨tis, fns_308, [], false⟩ := g_354.cons m_impl_Bridge_setRow
noncomputable def impl_Bridge_setThing (p0 : Bridge) (i1 : List Int) (a2 : Val) : Option (Bridge × Int) :=
  (at? i1 3).bind fun x9 =>
  (cond (x9 == 1) (some (a2.1 != 4)) (some false)).bind fun t17 =>
  (cond t17
    (some true)
    ((cond (!(x9 == 1)) (some (a2.1 != 2)) (some false)).bind fun t25 =>
    some t25)).bind fun t26 =>
  cond t26
    (some (p0, 1))
    (cond (x9 == 1)
      (cond (decide ((a2.2.2.1.length : Int) > 10))
        (some (p0, 2))
        (some ((p0.1, a2.2.2.1, p0.2.2.1, p0.2.2.2.1, p0.2.2.2.2.1, p0.2.2.2.2.2.1, p0.2.2.2.2.2.2.1, p0.2.2.2.2.2.2.2.1, p0.2.2.2.2.2.2.2.2.1, p0.2.2.2.2.2.2.2.2.2.1, p0.2.2.2.2.2.2.2.2.2.2), 0)))
      ((at? i1 3).bind fun x52 =>
      cond (x52 == 3)
        ((at? i1 4).bind fun x57 =>
        (at? i1 5).bind fun x60 =>
        (impl_Bridge_setRow p0 x57 x60 a2.2.1).bind fun t64 =>
        some t64)
        ((at? i1 4).bind fun x67 =>
        cond (x67 == 2)
          ((impl_in a2.2.1 1 1000).bind fun t72 =>
          cond (!t72)
            (some (p0, 2))
            ((at? i1 5).bind fun x79 =>
            (ix p0.2.2.1.length (w64 (x79 - 1))).bind fun j84 =>
            (p0.2.2.1[j84]?).bind fun x =>
            some ((p0.1, p0.2.1, p0.2.2.1.set j84 (x.1, a2.2.1, x.2.2.1, x.2.2.2.1, x.2.2.2.2.1, x.2.2.2.2.2.1, x.2.2.2.2.2.2.1, x.2.2.2.2.2.2.2), p0.2.2.2.1, p0.2.2.2.2.1, p0.2.2.2.2.2.1, p0.2.2.2.2.2.2.1, p0.2.2.2.2.2.2.2.1, p0.2.2.2.2.2.2.2.2.1, p0.2.2.2.2.2.2.2.2.2.1, p0.2.2.2.2.2.2.2.2.2.2), 0)))
          ((at? i1 5).bind fun x33 =>
          (ix p0.2.2.2.2.2.1.length (w64 (x33 - 1))).bind fun j38 =>
          (p0.2.2.2.2.2.1[j38]?).bind fun x_1 =>
          some ((p0.1, p0.2.1, p0.2.2.1, p0.2.2.2.1, p0.2.2.2.2.1, p0.2.2.2.2.2.1.set j38 a2.2.1, p0.2.2.2.2.2.2.1, p0.2.2.2.2.2.2.2.1, p0.2.2.2.2.2.2.2.2.1, p0.2.2.2.2.2.2.2.2.2.1, p0.2.2.2.2.2.2.2.2.2.2), 0)))))
noncomputable def F_impl_Bridge_setThing : Fn := ⟨[.ptr cBridge true, .val false (.one (.sl (.one (.int .i64)))) false, .val true cVal false], [.val false (.one (.int .i64)) true], fun a => impl_Bridge_setThing a.1 a.2.1 a.2.2⟩
def a_impl_Bridge_setThing : List (Nat × LoopAnn) := []
theorem e_impl_Bridge_setThing : fnDen ⟨tis, fns_308, [], false⟩ a_impl_Bridge_setThing Tryz.f204 (codeOf Tryz.f204) [.ptr cBridge true, .val false (.one (.sl (.one (.int .i64)))) false, .val true cVal false] [.val false (.one (.int .i64)) true] = fun a => impl_Bridge_setThing a.1 a.2.1 a.2.2 := by kernel_rfl
theorem m_impl_Bridge_setThing : Meets Tryz.prog 204 F_impl_Bridge_setThing := by
  have h := meets_of (ann := a_impl_Bridge_setThing) (ps := [.ptr cBridge true, .val false (.one (.sl (.one (.int .i64)))) false, .val true cVal false]) (rs := [.val false (.one (.int .i64)) true]) g_308 mixed Tryz.func204 (by kernel_rfl) (by kernel_rfl : Tryz.f204.body = some (codeOf Tryz.f204))
  rw [e_impl_Bridge_setThing] at h
  exact h
noncomputable def fns_204 : List (FuncId × Fn) := (204, F_impl_Bridge_setThing) :: fns_308
theorem g_204 : Good Tryz.prog ⟨tis, fns_204, [], false⟩ := g_308.cons m_impl_Bridge_setThing
noncomputable def impl_entAt_l0 (l0 : List Fent) (tag1 : Int) (mac2 : Int) (t11 : Int) : Option (Int ⊕ (Unit ⊕ Int)) :=
  cond (decide (t11 < (l0.length : Int)))
    ((at? l0 t11).bind fun x14 =>
    (cond (x14.1 == tag1) (some (x14.2.1 == mac2)) (some false)).bind fun t25 =>
    cond t25 (some (.inr (.inr t11))) (some (.inl (w64 (t11 + 1)))))
    (some (.inr (.inl ())))
noncomputable def impl_entAt (l0 : List Fent) (tag1 : Int) (mac2 : Int) : Option Int :=
  (loop (fun z => impl_entAt_l0 l0 tag1 mac2 z) 0).bind (Sum.elim (fun d =>
    some (-1)) (fun r => some r))
noncomputable def F_impl_entAt : Fn := ⟨[.val false (.one (.sl cFent)) false, .val false (.one (.int .i64)) false, .val false (.one (.int .i64)) false], [.val false (.one (.int .i64)) true], fun a => impl_entAt a.1 a.2.1 a.2.2⟩
def a_impl_entAt : List (Nat × LoopAnn) := [(0, ⟨⟨[(11, false, [.dat (.int .i64)]), (21, false, [.undef]), (22, false, [.undef]), (23, false, [.undef]), (24, false, [.undef])], []⟩,
    ⟨[], []⟩, some ⟨[(6, false, [.dat (.int .i64)])], []⟩⟩)]
theorem e_impl_entAt : fnDen ⟨tis, fns_204, [], false⟩ a_impl_entAt Tryz.f309 (codeOf Tryz.f309) [.val false (.one (.sl cFent)) false, .val false (.one (.int .i64)) false, .val false (.one (.int .i64)) false] [.val false (.one (.int .i64)) true] = fun a => impl_entAt a.1 a.2.1 a.2.2 := by kernel_rfl
theorem m_impl_entAt : Meets Tryz.prog 309 F_impl_entAt := by
  have h := meets_of (ann := a_impl_entAt) (ps := [.val false (.one (.sl cFent)) false, .val false (.one (.int .i64)) false, .val false (.one (.int .i64)) false]) (rs := [.val false (.one (.int .i64)) true]) g_204 mixed Tryz.func309 (by kernel_rfl) (by kernel_rfl : Tryz.f309.body = some (codeOf Tryz.f309))
  rw [e_impl_entAt] at h
  exact h
noncomputable def fns_309 : List (FuncId × Fn) := (309, F_impl_entAt) :: fns_204
theorem g_309 : Good Tryz.prog ⟨tis, fns_309, [], false⟩ := g_204.cons m_impl_entAt
noncomputable def impl_canRead (b0 : Bridge) (o1 : List Int) : Option Bool :=
  (impl_numbered o1 2 5 ([1] : List Int)).bind fun t11 =>
  (cond t11
    (some true)
    ((impl_numbered o1 1 (b0.2.2.1.length : Int) ([2, 1] : List Int)).bind fun t16 =>
    some t16)).bind fun t17 =>
  (cond t17
    (some true)
    ((impl_numbered o1 1 (b0.2.2.1.length : Int) ([2, 3] : List Int)).bind fun t22 =>
    some t22)).bind fun t23 =>
  cond t23
    (some true)
    ((cond ((o1.length : Int) == 7)
      ((cut o1 0 5).bind fun t29 =>
      (impl_SameOid t29 ([1, 3, 1, 4, 1] : List Int)).bind fun t31 =>
      some t31)
      (some false)).bind fun t32 =>
    (cond t32
      ((at? o1 5).bind fun x37 =>
      (at? o1 6).bind fun x40 =>
      (impl_entAt b0.2.2.2.1 x37 x40).bind fun t42 =>
      some (decide (t42 ≥ 0)))
      (some false)).bind fun t44 =>
    some t44)
noncomputable def F_impl_canRead : Fn := ⟨[.val true cBridge false, .val false (.one (.sl (.one (.int .i64)))) false], [.val false (.one .bool) true], fun a => impl_canRead a.1 a.2⟩
def a_impl_canRead : List (Nat × LoopAnn) := []
theorem e_impl_canRead : fnDen ⟨tis, fns_309, [], false⟩ a_impl_canRead Tryz.f205 (codeOf Tryz.f205) [.val true cBridge false, .val false (.one (.sl (.one (.int .i64)))) false] [.val false (.one .bool) true] = fun a => impl_canRead a.1 a.2 := by kernel_rfl
theorem m_impl_canRead : Meets Tryz.prog 205 F_impl_canRead := by
  have h := meets_of (ann := a_impl_canRead) (ps := [.val true cBridge false, .val false (.one (.sl (.one (.int .i64)))) false]) (rs := [.val false (.one .bool) true]) g_309 mixed Tryz.func205 (by kernel_rfl) (by kernel_rfl : Tryz.f205.body = some (codeOf Tryz.f205))
  rw [e_impl_canRead] at h
  exact h
noncomputable def fns_205 : List (FuncId × Fn) := (205, F_impl_canRead) :: fns_309
theorem g_205 : Good Tryz.prog ⟨tis, fns_205, [], false⟩ := g_309.cons m_impl_canRead
noncomputable def impl_Bridge_set (b0 : Bridge) (x1 : Bind) : Option (Bridge × Int) :=
  (impl_canSet b0 x1.1).bind fun t11 =>
  cond t11
    ((impl_Bridge_setThing b0 x1.1 x1.2).bind fun t17 =>
    some t17)
    ((impl_canRead b0 x1.1).bind fun t24 =>
    cond t24 (some (b0, 4)) (some (b0, 3)))
noncomputable def F_impl_Bridge_set : Fn := ⟨[.ptr cBridge true, .val true cBind false], [.val false (.one (.int .i64)) true], fun a => impl_Bridge_set a.1 a.2⟩
def a_impl_Bridge_set : List (Nat × LoopAnn) := []
theorem e_impl_Bridge_set : fnDen ⟨tis, fns_205, [], false⟩ a_impl_Bridge_set Tryz.f90 (codeOf Tryz.f90) [.ptr cBridge true, .val true cBind false] [.val false (.one (.int .i64)) true] = fun a => impl_Bridge_set a.1 a.2 := by kernel_rfl
theorem m_impl_Bridge_set : Meets Tryz.prog 90 F_impl_Bridge_set := by
  have h := meets_of (ann := a_impl_Bridge_set) (ps := [.ptr cBridge true, .val true cBind false]) (rs := [.val false (.one (.int .i64)) true]) g_205 mixed Tryz.func90 (by kernel_rfl) (by kernel_rfl : Tryz.f90.body = some (codeOf Tryz.f90))
  rw [e_impl_Bridge_set] at h
  exact h
noncomputable def fns_90 : List (FuncId × Fn) := (90, F_impl_Bridge_set) :: fns_205
theorem g_90 : Good Tryz.prog ⟨tis, fns_90, [], false⟩ := g_205.cons m_impl_Bridge_set
noncomputable def impl_more (n0 : Int) : Option Int :=
  let t2 := min2 (w64 (n0 + 1)) 1000000
  some t2
noncomputable def F_impl_more : Fn := ⟨[.val false (.one (.int .i64)) false], [.val false (.one (.int .i64)) true], fun a => impl_more a⟩
def a_impl_more : List (Nat × LoopAnn) := []
theorem e_impl_more : fnDen ⟨tis, fns_90, [], false⟩ a_impl_more Tryz.f110 (codeOf Tryz.f110) [.val false (.one (.int .i64)) false] [.val false (.one (.int .i64)) true] = fun a => impl_more a := by kernel_rfl
theorem m_impl_more : Meets Tryz.prog 110 F_impl_more := by
  have h := meets_of (ann := a_impl_more) (ps := [.val false (.one (.int .i64)) false]) (rs := [.val false (.one (.int .i64)) true]) g_90 mixed Tryz.func110 (by kernel_rfl) (by kernel_rfl : Tryz.f110.body = some (codeOf Tryz.f110))
  rw [e_impl_more] at h
  exact h
noncomputable def fns_110 : List (FuncId × Fn) := (110, F_impl_more) :: fns_90
theorem g_110 : Good Tryz.prog ⟨tis, fns_110, [], false⟩ := g_90.cons m_impl_more
noncomputable def impl_LessVec (a0 : Vec) (b1 : Vec) : Option Bool :=
  cond (a0.1 != b1.1)
    (some (decide (a0.1 < b1.1)))
    (cond (a0.2.1 != b1.2.1)
      (some (decide (a0.2.1 < b1.2.1)))
      (cond (a0.2.2.2.1 != b1.2.2.2.1)
        (let t4 := decide (a0.2.2.2.1 < b1.2.2.2.1)
        some t4)
        (let t4_1 := decide (a0.2.2.2.2 < b1.2.2.2.2)
        some t4_1)))
noncomputable def F_impl_LessVec : Fn := ⟨[.val true cVec false, .val true cVec false], [.val false (.one .bool) true], fun a => impl_LessVec a.1 a.2⟩
def a_impl_LessVec : List (Nat × LoopAnn) := []
theorem e_impl_LessVec : fnDen ⟨tis, fns_110, [], false⟩ a_impl_LessVec Tryz.f284 (codeOf Tryz.f284) [.val true cVec false, .val true cVec false] [.val false (.one .bool) true] = fun a => impl_LessVec a.1 a.2 := by kernel_rfl
theorem m_impl_LessVec : Meets Tryz.prog 284 F_impl_LessVec := by
  have h := meets_of (ann := a_impl_LessVec) (ps := [.val true cVec false, .val true cVec false]) (rs := [.val false (.one .bool) true]) g_110 mixed Tryz.func284 (by kernel_rfl) (by kernel_rfl : Tryz.f284.body = some (codeOf Tryz.f284))
  rw [e_impl_LessVec] at h
  exact h
noncomputable def fns_284 : List (FuncId × Fn) := (284, F_impl_LessVec) :: fns_110
theorem g_284 : Good Tryz.prog ⟨tis, fns_284, [], false⟩ := g_110.cons m_impl_LessVec
noncomputable def impl_StepVec (v0 : Vec) (cost1 : Int) : Option (Vec × Bool) :=
  (impl_VecOk v0).bind fun t8 =>
  (cond (!t8)
    (some true)
    ((impl_in cost1 1 1000).bind fun t12 =>
    some (!t12))).bind fun t14 =>
  cond t14
    (some (v0, false))
    ((impl_VecOk (v0.1, w64 (v0.2.1 + cost1), w64 (v0.2.2.1 + 1), v0.2.2.2.1, v0.2.2.2.2)).bind fun t27 =>
    cond (!t27)
      (some (v0, false))
      (some ((v0.1, w64 (v0.2.1 + cost1), w64 (v0.2.2.1 + 1), v0.2.2.2.1, v0.2.2.2.2), true)))
noncomputable def F_impl_StepVec : Fn := ⟨[.val true cVec false, .val false (.one (.int .i64)) false], [.val true cVec true, .val false (.one .bool) true], fun a => impl_StepVec a.1 a.2⟩
def a_impl_StepVec : List (Nat × LoopAnn) := []
theorem e_impl_StepVec : fnDen ⟨tis, fns_284, [], false⟩ a_impl_StepVec Tryz.f347 (codeOf Tryz.f347) [.val true cVec false, .val false (.one (.int .i64)) false] [.val true cVec true, .val false (.one .bool) true] = fun a => impl_StepVec a.1 a.2 := by kernel_rfl
theorem m_impl_StepVec : Meets Tryz.prog 347 F_impl_StepVec := by
  have h := meets_of (ann := a_impl_StepVec) (ps := [.val true cVec false, .val false (.one (.int .i64)) false]) (rs := [.val true cVec true, .val false (.one .bool) true]) g_284 mixed Tryz.func347 (by kernel_rfl) (by kernel_rfl : Tryz.f347.body = some (codeOf Tryz.f347))
  rw [e_impl_StepVec] at h
  exact h
noncomputable def fns_347 : List (FuncId × Fn) := (347, F_impl_StepVec) :: fns_284
theorem g_347 : Good Tryz.prog ⟨tis, fns_347, [], false⟩ := g_284.cons m_impl_StepVec
noncomputable def impl_BestVec_l0 (p0 : Int) (i1 : List Pt) (t7 : Int) (t18 : Int) (b0 : Int) (b1 : Int) (b2 : Int) (b3 : Int) (b4 : Int) (b0_1 : Int) (b1_1 : Int) (b2_1 : Int) (b3_1 : Int) (b4_1 : Int) : Option ((Int × Int × Int × Int × Int × Int × Int × Int × Int × Int × Int × Int) ⊕ (Int × Int × Int × Int × Int × Int × Int × Int × Int × Int × Int)) :=
  cond (decide (t18 < (i1.length : Int)))
    ((at? i1 t18).bind fun x21 =>
    (cond (!x21.1) (some true) (some (!x21.2.2.1))).bind fun t30 =>
    cond t30
      (some (.inl (t7, w64 (t18 + 1), b0, b1, b2, b3, b4, b0_1, b1_1, b2_1, b3_1, b4_1)))
      ((impl_StepVec x21.2.2.2 x21.2.1).bind fun t36 =>
      (cond t36.2 (some (decide (t36.1.1 < p0))) (some false)).bind fun t45 =>
      (cond t45
        ((cond (decide (t7 < 0))
          (some true)
          ((impl_LessVec t36.1 (b0_1, b1_1, b2_1, b3_1, b4_1)).bind fun t52 =>
          some t52)).bind fun t53 =>
        some t53)
        (some false)).bind fun t54 =>
      cond t54
        (some (.inl (t18, w64 (t18 + 1), t36.1.1, t36.1.2.1, t36.1.2.2.1, p0, 0, t36.1.1, t36.1.2.1, t36.1.2.2.1, t36.1.2.2.2.1, t36.1.2.2.2.2)))
        (some (.inl (t7, w64 (t18 + 1), b0, b1, b2, b3, b4, b0_1, b1_1, b2_1, b3_1, b4_1)))))
    (some (.inr (t7, b0, b1, b2, b3, b4, b0_1, b1_1, b2_1, b3_1, b4_1)))
noncomputable def impl_BestVec (p0 : Int) (i1 : List Pt) : Option (Vec × Int) :=
  (loop (fun z => impl_BestVec_l0 p0 i1 z.1 z.2.1 z.2.2.1 z.2.2.2.1 z.2.2.2.2.1 z.2.2.2.2.2.1 z.2.2.2.2.2.2.1 z.2.2.2.2.2.2.2.1 z.2.2.2.2.2.2.2.2.1 z.2.2.2.2.2.2.2.2.2.1 z.2.2.2.2.2.2.2.2.2.2.1 z.2.2.2.2.2.2.2.2.2.2.2) ((-1), 0, p0, 0, 0, p0, 0, 0, 0, 0, 0, 0)).bind fun d =>
  some ((d.2.1, d.2.2.1, d.2.2.2.1, d.2.2.2.2.1, d.2.2.2.2.2.1), d.1)
noncomputable def F_impl_BestVec : Fn := ⟨[.val false (.one (.int .i64)) false, .val false (.one (.sl cPt)) false], [.val true cVec true, .val false (.one (.int .i64)) true], fun a => impl_BestVec a.1 a.2⟩
def a_impl_BestVec : List (Nat × LoopAnn) := [(0, ⟨⟨[(7, false, [.dat (.int .i64)]), (18, false, [.dat (.int .i64)]), (27, false, [.undef]), (28, false, [.undef]), (29, false, [.undef]), (41, false, [.undef]), (42, false, [.undef]), (43, false, [.undef]), (44, false, [.undef]), (47, false, [.undef]), (48, false, [.undef]), (49, false, [.undef]), (50, false, [.undef]), (51, false, [.undef]), (52, false, [.undef]), (53, false, [.undef])], [(266240, .box [.dat (.int .i64), .dat (.int .i64), .dat (.int .i64), .dat (.int .i64), .dat (.int .i64)]), (525312, .box [.dat (.int .i64), .dat (.int .i64), .dat (.int .i64), .dat (.int .i64), .dat (.int .i64)])]⟩,
    ⟨[(7, false, [.dat (.int .i64)])], [(266240, .box [.dat (.int .i64), .dat (.int .i64), .dat (.int .i64), .dat (.int .i64), .dat (.int .i64)]), (525312, .box [.dat (.int .i64), .dat (.int .i64), .dat (.int .i64), .dat (.int .i64), .dat (.int .i64)])]⟩, none⟩)]
theorem e_impl_BestVec : fnDen ⟨tis, fns_347, [], false⟩ a_impl_BestVec Tryz.f281 (codeOf Tryz.f281) [.val false (.one (.int .i64)) false, .val false (.one (.sl cPt)) false] [.val true cVec true, .val false (.one (.int .i64)) true] = fun a => impl_BestVec a.1 a.2 := by kernel_rfl
theorem m_impl_BestVec : Meets Tryz.prog 281 F_impl_BestVec := by
  have h := meets_of (ann := a_impl_BestVec) (ps := [.val false (.one (.int .i64)) false, .val false (.one (.sl cPt)) false]) (rs := [.val true cVec true, .val false (.one (.int .i64)) true]) g_347 mixed Tryz.func281 (by kernel_rfl) (by kernel_rfl : Tryz.f281.body = some (codeOf Tryz.f281))
  rw [e_impl_BestVec] at h
  exact h
noncomputable def fns_281 : List (FuncId × Fn) := (281, F_impl_BestVec) :: fns_347
theorem g_281 : Good Tryz.prog ⟨tis, fns_281, [], false⟩ := g_347.cons m_impl_BestVec
noncomputable def impl_SayVec (id0 : Int) (l1 : List Pt) (port2 : Int) : Option Vec :=
  (impl_BestVec id0 l1).bind fun t12 =>
  some (t12.1.1, t12.1.2.1, t12.1.2.2.1, t12.1.2.2.2.1, port2)
noncomputable def F_impl_SayVec : Fn := ⟨[.val false (.one (.int .i64)) false, .val false (.one (.sl cPt)) false, .val false (.one (.int .i64)) false], [.val true cVec true], fun a => impl_SayVec a.1 a.2.1 a.2.2⟩
def a_impl_SayVec : List (Nat × LoopAnn) := []
theorem e_impl_SayVec : fnDen ⟨tis, fns_281, [], false⟩ a_impl_SayVec Tryz.f278 (codeOf Tryz.f278) [.val false (.one (.int .i64)) false, .val false (.one (.sl cPt)) false, .val false (.one (.int .i64)) false] [.val true cVec true] = fun a => impl_SayVec a.1 a.2.1 a.2.2 := by kernel_rfl
theorem m_impl_SayVec : Meets Tryz.prog 278 F_impl_SayVec := by
  have h := meets_of (ann := a_impl_SayVec) (ps := [.val false (.one (.int .i64)) false, .val false (.one (.sl cPt)) false, .val false (.one (.int .i64)) false]) (rs := [.val true cVec true]) g_281 mixed Tryz.func278 (by kernel_rfl) (by kernel_rfl : Tryz.f278.body = some (codeOf Tryz.f278))
  rw [e_impl_SayVec] at h
  exact h
noncomputable def fns_278 : List (FuncId × Fn) := (278, F_impl_SayVec) :: fns_281
theorem g_278 : Good Tryz.prog ⟨tis, fns_278, [], false⟩ := g_281.cons m_impl_SayVec
noncomputable def impl_RoleOf (id0 : Int) (l1 : List Pt) (port2 : Int) : Option Int :=
  (impl_in port2 0 (w64 ((l1.length : Int) - 1))).bind fun t13 =>
  (cond (!t13)
    (some true)
    ((at? l1 port2).bind fun x18 =>
    some (!x18.1))).bind fun t22 =>
  cond t22
    (some 4)
    ((impl_BestVec id0 l1).bind fun t26 =>
    cond (t26.2 == port2)
      (some 1)
      ((at? l1 port2).bind fun x36 =>
      (cond (!x36.2.2.1)
        (some true)
        ((impl_SayVec id0 l1 port2).bind fun t44 =>
        (at? l1 port2).bind fun x47 =>
        (impl_LessVec t44 x47.2.2.2).bind fun t50 =>
        some t50)).bind fun t51 =>
      cond t51 (some 2) (some 3)))
noncomputable def F_impl_RoleOf : Fn := ⟨[.val false (.one (.int .i64)) false, .val false (.one (.sl cPt)) false, .val false (.one (.int .i64)) false], [.val false (.one (.int .i64)) true], fun a => impl_RoleOf a.1 a.2.1 a.2.2⟩
def a_impl_RoleOf : List (Nat × LoopAnn) := []
theorem e_impl_RoleOf : fnDen ⟨tis, fns_278, [], false⟩ a_impl_RoleOf Tryz.f173 (codeOf Tryz.f173) [.val false (.one (.int .i64)) false, .val false (.one (.sl cPt)) false, .val false (.one (.int .i64)) false] [.val false (.one (.int .i64)) true] = fun a => impl_RoleOf a.1 a.2.1 a.2.2 := by kernel_rfl
theorem m_impl_RoleOf : Meets Tryz.prog 173 F_impl_RoleOf := by
  have h := meets_of (ann := a_impl_RoleOf) (ps := [.val false (.one (.int .i64)) false, .val false (.one (.sl cPt)) false, .val false (.one (.int .i64)) false]) (rs := [.val false (.one (.int .i64)) true]) g_278 mixed Tryz.func173 (by kernel_rfl) (by kernel_rfl : Tryz.f173.body = some (codeOf Tryz.f173))
  rw [e_impl_RoleOf] at h
  exact h
noncomputable def fns_173 : List (FuncId × Fn) := (173, F_impl_RoleOf) :: fns_278
theorem g_173 : Good Tryz.prog ⟨tis, fns_173, [], false⟩ := g_278.cons m_impl_RoleOf
noncomputable def impl_Sends_l0 (id0 : Int) (l1 : List Pt) (bits5 : Int) (port6 : Int) : Option ((Int × Int) ⊕ Int) :=
  (cond (decide (port6 < (l1.length : Int))) (some (decide (port6 < 6))) (some false)).bind fun t15 =>
  cond t15
    ((impl_RoleOf id0 l1 port6).bind fun t21 =>
    (cond (t21 == 1) (some true) (some (t21 == 2))).bind fun t27 =>
    cond t27
      ((shl .i64 1 port6).bind fun t30 =>
      some (.inl (bor .i64 bits5 t30, w64 (port6 + 1))))
      (some (.inl (bits5, w64 (port6 + 1)))))
    (some (.inr bits5))
noncomputable def impl_Sends (id0 : Int) (l1 : List Pt) : Option Int :=
  (loop (fun z => impl_Sends_l0 id0 l1 z.1 z.2) (0, 0)).bind fun d =>
  some d
noncomputable def F_impl_Sends : Fn := ⟨[.val false (.one (.int .i64)) false, .val false (.one (.sl cPt)) false], [.val false (.one (.int .i64)) true], fun a => impl_Sends a.1 a.2⟩
def a_impl_Sends : List (Nat × LoopAnn) := [(0, ⟨⟨[(5, false, [.dat (.int .i64)]), (6, false, [.dat (.int .i64)]), (13, false, [.undef]), (14, false, [.undef]), (25, false, [.undef]), (26, false, [.undef])], []⟩,
    ⟨[(5, false, [.dat (.int .i64)])], []⟩, none⟩)]
theorem e_impl_Sends : fnDen ⟨tis, fns_173, [], false⟩ a_impl_Sends Tryz.f208 (codeOf Tryz.f208) [.val false (.one (.int .i64)) false, .val false (.one (.sl cPt)) false] [.val false (.one (.int .i64)) true] = fun a => impl_Sends a.1 a.2 := by kernel_rfl
theorem m_impl_Sends : Meets Tryz.prog 208 F_impl_Sends := by
  have h := meets_of (ann := a_impl_Sends) (ps := [.val false (.one (.int .i64)) false, .val false (.one (.sl cPt)) false]) (rs := [.val false (.one (.int .i64)) true]) g_173 mixed Tryz.func208 (by kernel_rfl) (by kernel_rfl : Tryz.f208.body = some (codeOf Tryz.f208))
  rw [e_impl_Sends] at h
  exact h
noncomputable def fns_208 : List (FuncId × Fn) := (208, F_impl_Sends) :: fns_173
theorem g_208 : Good Tryz.prog ⟨tis, fns_208, [], false⟩ := g_173.cons m_impl_Sends
noncomputable def impl_hasPort (bits0 : Int) (port1 : Int) : Option Bool :=
  (impl_in port1 0 62).bind fun t6 =>
  (cond t6
    ((shr .i64 bits0 port1).bind fun t10 =>
    some ((band .i64 t10 1) == 1))
    (some false)).bind fun t13 =>
  some t13
noncomputable def F_impl_hasPort : Fn := ⟨[.val false (.one (.int .i64)) false, .val false (.one (.int .i64)) false], [.val false (.one .bool) true], fun a => impl_hasPort a.1 a.2⟩
def a_impl_hasPort : List (Nat × LoopAnn) := []
theorem e_impl_hasPort : fnDen ⟨tis, fns_208, [], false⟩ a_impl_hasPort Tryz.f209 (codeOf Tryz.f209) [.val false (.one (.int .i64)) false, .val false (.one (.int .i64)) false] [.val false (.one .bool) true] = fun a => impl_hasPort a.1 a.2 := by kernel_rfl
theorem m_impl_hasPort : Meets Tryz.prog 209 F_impl_hasPort := by
  have h := meets_of (ann := a_impl_hasPort) (ps := [.val false (.one (.int .i64)) false, .val false (.one (.int .i64)) false]) (rs := [.val false (.one .bool) true]) g_208 mixed Tryz.func209 (by kernel_rfl) (by kernel_rfl : Tryz.f209.body = some (codeOf Tryz.f209))
  rw [e_impl_hasPort] at h
  exact h
noncomputable def fns_209 : List (FuncId × Fn) := (209, F_impl_hasPort) :: fns_208
theorem g_209 : Good Tryz.prog ⟨tis, fns_209, [], false⟩ := g_208.cons m_impl_hasPort
noncomputable def impl_FlushPort_l0 (l0 : List Fent) (port1 : Int) (t10 : Int) (out5 : List Fent) : Option ((Int × List Fent) ⊕ (List Fent)) :=
  cond (decide (t10 < (l0.length : Int)))
    ((at? l0 t10).bind fun x12 =>
    (cond x12.2.2.2.2 (some true) (some (x12.2.2.1 != port1))).bind fun t21 =>
    cond t21
      ((app out5 [x12]).bind fun zs25 =>
      some (.inl (w64 (t10 + 1), zs25)))
      (some (.inl (w64 (t10 + 1), out5))))
    (some (.inr out5))
noncomputable def impl_FlushPort (l0 : List Fent) (port1 : Int) : Option (List Fent) :=
  (loop (fun z => impl_FlushPort_l0 l0 port1 z.1 z.2) (0, [])).bind fun d =>
  some d
noncomputable def F_impl_FlushPort : Fn := ⟨[.val false (.one (.sl cFent)) false, .val false (.one (.int .i64)) false], [.val false (.one (.sl cFent)) true], fun a => impl_FlushPort a.1 a.2⟩
def a_impl_FlushPort : List (Nat × LoopAnn) := [(0, ⟨⟨[(5, false, [.own 1000000000]), (10, false, [.dat (.int .i64)]), (17, false, [.undef]), (18, false, [.undef]), (19, false, [.undef]), (20, false, [.undef])], [(1000000000, .root cFent true)]⟩,
    ⟨[(5, false, [.own 1000000300])], [(1000000300, .root cFent true)]⟩, none⟩)]
theorem e_impl_FlushPort : fnDen ⟨tis, fns_209, [], false⟩ a_impl_FlushPort Tryz.f210 (codeOf Tryz.f210) [.val false (.one (.sl cFent)) false, .val false (.one (.int .i64)) false] [.val false (.one (.sl cFent)) true] = fun a => impl_FlushPort a.1 a.2 := by kernel_rfl
theorem m_impl_FlushPort : Meets Tryz.prog 210 F_impl_FlushPort := by
  have h := meets_of (ann := a_impl_FlushPort) (ps := [.val false (.one (.sl cFent)) false, .val false (.one (.int .i64)) false]) (rs := [.val false (.one (.sl cFent)) true]) g_209 mixed Tryz.func210 (by kernel_rfl) (by kernel_rfl : Tryz.f210.body = some (codeOf Tryz.f210))
  rw [e_impl_FlushPort] at h
  exact h
noncomputable def fns_210 : List (FuncId × Fn) := (210, F_impl_FlushPort) :: fns_209
theorem g_210 : Good Tryz.prog ⟨tis, fns_210, [], false⟩ := g_209.cons m_impl_FlushPort
noncomputable def impl_Bridge_turn_l0 (b0 : Bridge) (t20 : Int) (t26 : Int) (b0_1 : Int) (b1 : List UInt8) (b6 : Int) (b7 : Int) (b8 : Int) (b9 : Int) (b10 : Int) (b3 : List Fent) : Option ((Int × Int × List UInt8 × Int × Int × Int × Int × Int × List Fent) ⊕ (Int × List UInt8 × Int × Int × Int × Int × Int × List Fent)) :=
  cond (decide (t26 < (b0.2.2.1.length : Int)))
    ((impl_hasPort t20 t26).bind fun t31 =>
    cond (!t31)
      ((impl_FlushPort b3 t26).bind fun t39 =>
      some (.inl (w64 (t26 + 1), b0_1, b1, b6, b7, b8, b9, b10, t39)))
      (some (.inl (w64 (t26 + 1), b0_1, b1, b6, b7, b8, b9, b10, b3))))
    (some (.inr (b0_1, b1, b6, b7, b8, b9, b10, b3)))
noncomputable def impl_Bridge_turn (b0 : Bridge) : Option Bridge :=
  (impl_more b0.2.2.2.2.2.2.2.2.2.2).bind fun t9 =>
  (impl_Sends b0.1 b0.2.2.1).bind fun t20 =>
  (loop (fun z => impl_Bridge_turn_l0 b0 t20 z.1 z.2.1 z.2.2.1 z.2.2.2.1 z.2.2.2.2.1 z.2.2.2.2.2.1 z.2.2.2.2.2.2.1 z.2.2.2.2.2.2.2.1 z.2.2.2.2.2.2.2.2) (0, b0.1, b0.2.1, b0.2.2.2.2.2.2.1, b0.2.2.2.2.2.2.2.1, b0.2.2.2.2.2.2.2.2.1, b0.2.2.2.2.2.2.2.2.2.1, t9, b0.2.2.2.1)).bind fun d =>
  some (d.1, d.2.1, b0.2.2.1, d.2.2.2.2.2.2.2, b0.2.2.2.2.1, b0.2.2.2.2.2.1, d.2.2.1, d.2.2.2.1, d.2.2.2.2.1, d.2.2.2.2.2.1, d.2.2.2.2.2.2.1)
noncomputable def F_impl_Bridge_turn : Fn := ⟨[.ptr cBridge true], [], fun a => impl_Bridge_turn a⟩
def a_impl_Bridge_turn : List (Nat × LoopAnn) := [(0, ⟨⟨[(26, false, [.dat (.int .i64)])], [(1, .box [.dat (.int .i64), .dat .str, .same 4, .own 1000000000, .same 6, .same 7, .dat (.int .i64), .dat (.int .i64), .dat (.int .i64), .dat (.int .i64), .dat (.int .i64)]), (1000000000, .root cFent true)]⟩,
    ⟨[], [(1, .box [.dat (.int .i64), .dat .str, .same 4, .own 1000000300, .same 6, .same 7, .dat (.int .i64), .dat (.int .i64), .dat (.int .i64), .dat (.int .i64), .dat (.int .i64)]), (1000000300, .root cFent true)]⟩, none⟩)]
theorem e_impl_Bridge_turn : fnDen ⟨tis, fns_210, [], false⟩ a_impl_Bridge_turn Tryz.f92 (codeOf Tryz.f92) [.ptr cBridge true] [] = fun a => impl_Bridge_turn a := by kernel_rfl
theorem m_impl_Bridge_turn : Meets Tryz.prog 92 F_impl_Bridge_turn := by
  have h := meets_of (ann := a_impl_Bridge_turn) (ps := [.ptr cBridge true]) (rs := []) g_210 mixed Tryz.func92 (by kernel_rfl) (by kernel_rfl : Tryz.f92.body = some (codeOf Tryz.f92))
  rw [e_impl_Bridge_turn] at h
  exact h
noncomputable def fns_92 : List (FuncId × Fn) := (92, F_impl_Bridge_turn) :: fns_210
theorem g_92 : Good Tryz.prog ⟨tis, fns_92, [], false⟩ := g_210.cons m_impl_Bridge_turn
noncomputable def impl_SetAll_l2 (p0 : Bridge) (t25 : Int) (x28 : Bind) (t32 : List Bind) (t34 : Int) (b0_2 : Int) (b1_2 : List UInt8) (b6_2 : Int) (b7_2 : Int) (b8_2 : Int) (b9_2 : Int) (b10_2 : Int) : Option ((Int × Int × List UInt8 × Int × Int × Int × Int × Int) ⊕ ((Int × List UInt8 × Int × Int × Int × Int × Int) ⊕ (Int × Int × Int × List UInt8 × Int × Int × Int × Int × Int × List Pt × List Fent × List Vrow × List Int))) :=
  cond (decide (t34 < (t32.length : Int)))
    ((at? t32 t34).bind fun x36 =>
    (impl_SameOid x28.1 x36.1).bind fun t42 =>
    cond t42
      ((impl_copyBridge p0).bind fun t44 =>
      some (.inr (.inr (5, w64 (t25 + 1), t44.1, t44.2.1, t44.2.2.2.2.2.2.1, t44.2.2.2.2.2.2.2.1, t44.2.2.2.2.2.2.2.2.1, t44.2.2.2.2.2.2.2.2.2.1, t44.2.2.2.2.2.2.2.2.2.2, t44.2.2.1, t44.2.2.2.1, t44.2.2.2.2.1, t44.2.2.2.2.2.1))))
      (some (.inl (w64 (t34 + 1), b0_2, b1_2, b6_2, b7_2, b8_2, b9_2, b10_2))))
    (some (.inr (.inl (b0_2, b1_2, b6_2, b7_2, b8_2, b9_2, b10_2))))
noncomputable def impl_SetAll_l0 (p0 : Bridge) (i1 : List Bind) (t25 : Int) (b0 : Int) (b1 : List UInt8) (b6 : Int) (b7 : Int) (b8 : Int) (b9 : Int) (b10 : Int) (b0_1 : Int) (b1_1 : List UInt8) (b6_1 : Int) (b7_1 : Int) (b8_1 : Int) (b9_1 : Int) (b10_1 : Int) (b2 : List Pt) (b3 : List Fent) (b4 : List Vrow) (b5 : List Int) (b2_1 : List Pt) (b3_1 : List Fent) (b4_1 : List Vrow) (b5_1 : List Int) : Option ((Int × Int × List UInt8 × Int × Int × Int × Int × Int × Int × List UInt8 × Int × Int × Int × Int × Int × List Pt × List Fent × List Vrow × List Int × List Pt × List Fent × List Vrow × List Int) ⊕ ((Int × List UInt8 × Int × Int × Int × Int × Int × Int × List UInt8 × Int × Int × Int × Int × Int × List Pt × List Fent × List Vrow × List Int × List Pt × List Fent × List Vrow × List Int) ⊕ (Int × Int × Int × List UInt8 × Int × Int × Int × Int × Int × List Pt × List Fent × List Vrow × List Int))) :=
  cond (decide (t25 < (i1.length : Int)))
    ((at? i1 t25).bind fun x28 =>
    (cut i1 0 t25).bind fun t32 =>
    (loop (fun z => impl_SetAll_l2 p0 t25 x28 t32 z.1 z.2.1 z.2.2.1 z.2.2.2.1 z.2.2.2.2.1 z.2.2.2.2.2.1 z.2.2.2.2.2.2.1 z.2.2.2.2.2.2.2) (0, b0, b1, b6, b7, b8, b9, b10)).bind (Sum.elim (fun d =>
      (impl_Bridge_set (b0_1, b1_1, b2_1, b3_1, b4_1, b5_1, b6_1, b7_1, b8_1, b9_1, b10_1) x28).bind fun t49 =>
      cond (t49.2 != 0)
        ((impl_copyBridge p0).bind fun t53 =>
        some (.inr (.inr (t49.2, w64 (t25 + 1), t53.1, t53.2.1, t53.2.2.2.2.2.2.1, t53.2.2.2.2.2.2.2.1, t53.2.2.2.2.2.2.2.2.1, t53.2.2.2.2.2.2.2.2.2.1, t53.2.2.2.2.2.2.2.2.2.2, t53.2.2.1, t53.2.2.2.1, t53.2.2.2.2.1, t53.2.2.2.2.2.1))))
        (some (.inl (w64 (t25 + 1), d.1, d.2.1, d.2.2.1, d.2.2.2.1, d.2.2.2.2.1, d.2.2.2.2.2.1, d.2.2.2.2.2.2, t49.1.1, t49.1.2.1, t49.1.2.2.2.2.2.2.1, t49.1.2.2.2.2.2.2.2.1, t49.1.2.2.2.2.2.2.2.2.1, t49.1.2.2.2.2.2.2.2.2.2.1, t49.1.2.2.2.2.2.2.2.2.2.2, b2, b3, b4, b5, t49.1.2.2.1, t49.1.2.2.2.1, t49.1.2.2.2.2.1, t49.1.2.2.2.2.2.1)))) (fun r => some (.inr (.inr r)))))
    (some (.inr (.inl (b0, b1, b6, b7, b8, b9, b10, b0_1, b1_1, b6_1, b7_1, b8_1, b9_1, b10_1, b2, b3, b4, b5, b2_1, b3_1, b4_1, b5_1))))
noncomputable def impl_SetAll (p0 : Bridge) (i1 : List Bind) : Option (Bridge × Int × Int) :=
  (impl_copyBridge p0).bind fun t14 =>
  cond ((i1.length : Int) == 0)
    (some (t14, 0, 0))
    ((impl_BridgeOk p0).bind fun t20 =>
    cond (!t20)
      (some (t14, 3, 1))
      ((loop (fun z => impl_SetAll_l0 p0 i1 z.1 z.2.1 z.2.2.1 z.2.2.2.1 z.2.2.2.2.1 z.2.2.2.2.2.1 z.2.2.2.2.2.2.1 z.2.2.2.2.2.2.2.1 z.2.2.2.2.2.2.2.2.1 z.2.2.2.2.2.2.2.2.2.1 z.2.2.2.2.2.2.2.2.2.2.1 z.2.2.2.2.2.2.2.2.2.2.2.1 z.2.2.2.2.2.2.2.2.2.2.2.2.1 z.2.2.2.2.2.2.2.2.2.2.2.2.2.1 z.2.2.2.2.2.2.2.2.2.2.2.2.2.2.1 z.2.2.2.2.2.2.2.2.2.2.2.2.2.2.2.1 z.2.2.2.2.2.2.2.2.2.2.2.2.2.2.2.2.1 z.2.2.2.2.2.2.2.2.2.2.2.2.2.2.2.2.2.1 z.2.2.2.2.2.2.2.2.2.2.2.2.2.2.2.2.2.2.1 z.2.2.2.2.2.2.2.2.2.2.2.2.2.2.2.2.2.2.2.1 z.2.2.2.2.2.2.2.2.2.2.2.2.2.2.2.2.2.2.2.2.1 z.2.2.2.2.2.2.2.2.2.2.2.2.2.2.2.2.2.2.2.2.2.1 z.2.2.2.2.2.2.2.2.2.2.2.2.2.2.2.2.2.2.2.2.2.2) (0, 0, [], 0, 0, 0, 0, 0, t14.1, t14.2.1, t14.2.2.2.2.2.2.1, t14.2.2.2.2.2.2.2.1, t14.2.2.2.2.2.2.2.2.1, t14.2.2.2.2.2.2.2.2.2.1, t14.2.2.2.2.2.2.2.2.2.2, [], [], [], [], t14.2.2.1, t14.2.2.2.1, t14.2.2.2.2.1, t14.2.2.2.2.2.1)).bind (Sum.elim (fun d_1 =>
        (impl_VtabOk d_1.2.2.2.2.2.2.2.2.2.2.2.2.2.2.2.2.2.2.2.2 (d_1.2.2.2.2.2.2.2.2.2.2.2.2.2.2.2.2.2.2.1.length : Int)).bind fun t63 =>
        cond (!t63)
          ((impl_copyBridge p0).bind fun t66 =>
          some (t66, 5, (i1.length : Int)))
          ((impl_Bridge_turn (d_1.2.2.2.2.2.2.2.1, d_1.2.2.2.2.2.2.2.2.1, d_1.2.2.2.2.2.2.2.2.2.2.2.2.2.2.2.2.2.2.1, d_1.2.2.2.2.2.2.2.2.2.2.2.2.2.2.2.2.2.2.2.1, d_1.2.2.2.2.2.2.2.2.2.2.2.2.2.2.2.2.2.2.2.2.1, d_1.2.2.2.2.2.2.2.2.2.2.2.2.2.2.2.2.2.2.2.2.2, d_1.2.2.2.2.2.2.2.2.2.1, d_1.2.2.2.2.2.2.2.2.2.2.1, d_1.2.2.2.2.2.2.2.2.2.2.2.1, d_1.2.2.2.2.2.2.2.2.2.2.2.2.1, d_1.2.2.2.2.2.2.2.2.2.2.2.2.2.1)).bind fun t69 =>
          some (t69, 0, 0))) (fun r_1 => some ((r_1.2.2.1, r_1.2.2.2.1, r_1.2.2.2.2.2.2.2.2.2.1, r_1.2.2.2.2.2.2.2.2.2.2.1, r_1.2.2.2.2.2.2.2.2.2.2.2.1, r_1.2.2.2.2.2.2.2.2.2.2.2.2, r_1.2.2.2.2.1, r_1.2.2.2.2.2.1, r_1.2.2.2.2.2.2.1, r_1.2.2.2.2.2.2.2.1, r_1.2.2.2.2.2.2.2.2.1), r_1.1, r_1.2.1)))))
noncomputable def F_impl_SetAll : Fn := ⟨[.val true cBridge false, .val false (.one (.sl cBind)) false], [.val true cBridge true, .val false (.one (.int .i64)) true, .val false (.one (.int .i64)) true], fun a => impl_SetAll a.1 a.2⟩
def a_impl_SetAll : List (Nat × LoopAnn) := [(0, ⟨⟨[(25, false, [.dat (.int .i64)])], [(2048, .box [.dat (.int .i64), .dat .str, .own 1000000000, .own 1000000001, .own 1000000002, .own 1000000003, .dat (.int .i64), .dat (.int .i64), .dat (.int .i64), .dat (.int .i64), .dat (.int .i64)]), (265216, .box [.dat (.int .i64), .dat .str, .own 1000000004, .own 1000000005, .own 1000000006, .own 1000000007, .dat (.int .i64), .dat (.int .i64), .dat (.int .i64), .dat (.int .i64), .dat (.int .i64)]), (1000000000, .root cPt true), (1000000001, .root cFent true), (1000000002, .root cVrow true), (1000000003, .root (.one (.int .i64)) true), (1000000004, .root cPt true), (1000000005, .root cFent true), (1000000006, .root cVrow true), (1000000007, .root (.one (.int .i64)) true)]⟩,
    ⟨[], [(2048, .box [.dat (.int .i64), .dat .str, .own 1000000300, .own 1000000301, .own 1000000302, .own 1000000303, .dat (.int .i64), .dat (.int .i64), .dat (.int .i64), .dat (.int .i64), .dat (.int .i64)]), (265216, .box [.dat (.int .i64), .dat .str, .own 1000000304, .own 1000000305, .own 1000000306, .own 1000000307, .dat (.int .i64), .dat (.int .i64), .dat (.int .i64), .dat (.int .i64), .dat (.int .i64)]), (1000000300, .root cPt true), (1000000301, .root cFent true), (1000000302, .root cVrow true), (1000000303, .root (.one (.int .i64)) true), (1000000304, .root cPt true), (1000000305, .root cFent true), (1000000306, .root cVrow true), (1000000307, .root (.one (.int .i64)) true)]⟩, some ⟨[(5, false, [.dat (.int .i64)]), (6, false, [.dat (.int .i64)])], [(2048, .box [.dat (.int .i64), .dat .str, .own 1000000600, .own 1000000601, .own 1000000602, .own 1000000603, .dat (.int .i64), .dat (.int .i64), .dat (.int .i64), .dat (.int .i64), .dat (.int .i64)]), (1000000600, .root cPt true), (1000000601, .root cFent true), (1000000602, .root cVrow true), (1000000603, .root (.one (.int .i64)) true)]⟩⟩),
  (2, ⟨⟨[(34, false, [.dat (.int .i64)])], [(2048, .box [.dat (.int .i64), .dat .str, .same 1000000000, .same 1000000001, .same 1000000002, .same 1000000003, .dat (.int .i64), .dat (.int .i64), .dat (.int .i64), .dat (.int .i64), .dat (.int .i64)])]⟩,
    ⟨[], [(2048, .box [.dat (.int .i64), .dat .str, .same 1000000000, .same 1000000001, .same 1000000002, .same 1000000003, .dat (.int .i64), .dat (.int .i64), .dat (.int .i64), .dat (.int .i64), .dat (.int .i64)])]⟩, some ⟨[(5, false, [.dat (.int .i64)]), (6, false, [.dat (.int .i64)])], [(2048, .box [.dat (.int .i64), .dat .str, .own 1000002600, .own 1000002601, .own 1000002602, .own 1000002603, .dat (.int .i64), .dat (.int .i64), .dat (.int .i64), .dat (.int .i64), .dat (.int .i64)]), (1000002600, .root cPt true), (1000002601, .root cFent true), (1000002602, .root cVrow true), (1000002603, .root (.one (.int .i64)) true)]⟩⟩)]
theorem e_impl_SetAll : fnDen ⟨tis, fns_92, [], false⟩ a_impl_SetAll Tryz.f24 (codeOf Tryz.f24) [.val true cBridge false, .val false (.one (.sl cBind)) false] [.val true cBridge true, .val false (.one (.int .i64)) true, .val false (.one (.int .i64)) true] = fun a => impl_SetAll a.1 a.2 := by kernel_rfl
theorem m_impl_SetAll : Meets Tryz.prog 24 F_impl_SetAll := by
  have h := meets_of (ann := a_impl_SetAll) (ps := [.val true cBridge false, .val false (.one (.sl cBind)) false]) (rs := [.val true cBridge true, .val false (.one (.int .i64)) true, .val false (.one (.int .i64)) true]) g_92 mixed Tryz.func24 (by kernel_rfl) (by kernel_rfl : Tryz.f24.body = some (codeOf Tryz.f24))
  rw [e_impl_SetAll] at h
  exact h
noncomputable def fns_24 : List (FuncId × Fn) := (24, F_impl_SetAll) :: fns_92
theorem g_24 : Good Tryz.prog ⟨tis, fns_24, [], false⟩ := g_92.cons m_impl_SetAll
noncomputable def spec_l8Copy (l0 : List Fent) : Option (List Fent) :=
  (app ([] : List Fent) l0).bind fun zs5 =>
  some zs5
noncomputable def F_spec_l8Copy : Fn := ⟨[.val false (.one (.sl cFent)) false], [.val false (.one (.sl cFent)) true], fun a => spec_l8Copy a⟩
def a_spec_l8Copy : List (Nat × LoopAnn) := []
theorem e_spec_l8Copy : fnDen ⟨tis, fns_24, [], false⟩ a_spec_l8Copy Tryz.f211 (codeOf Tryz.f211) [.val false (.one (.sl cFent)) false] [.val false (.one (.sl cFent)) true] = fun a => spec_l8Copy a := by kernel_rfl
theorem m_spec_l8Copy : Meets Tryz.prog 211 F_spec_l8Copy := by
  have h := meets_of (ann := a_spec_l8Copy) (ps := [.val false (.one (.sl cFent)) false]) (rs := [.val false (.one (.sl cFent)) true]) g_24 mixed Tryz.func211 (by kernel_rfl) (by kernel_rfl : Tryz.f211.body = some (codeOf Tryz.f211))
  rw [e_spec_l8Copy] at h
  exact h
noncomputable def fns_211 : List (FuncId × Fn) := (211, F_spec_l8Copy) :: fns_24
theorem g_211 : Good Tryz.prog ⟨tis, fns_211, [], false⟩ := g_24.cons m_spec_l8Copy
noncomputable def spec_l9Copy (v0 : Vtab) : Option Vtab :=
  (app ([] : List Vrow) v0.1).bind fun zs6 =>
  (app ([] : List Int) v0.2).bind fun zs10 =>
  some (zs6, zs10)
noncomputable def F_spec_l9Copy : Fn := ⟨[.val true cVtab false], [.val true cVtab true], fun a => spec_l9Copy a⟩
def a_spec_l9Copy : List (Nat × LoopAnn) := []
theorem e_spec_l9Copy : fnDen ⟨tis, fns_211, [], false⟩ a_spec_l9Copy Tryz.f212 (codeOf Tryz.f212) [.val true cVtab false] [.val true cVtab true] = fun a => spec_l9Copy a := by kernel_rfl
theorem m_spec_l9Copy : Meets Tryz.prog 212 F_spec_l9Copy := by
  have h := meets_of (ann := a_spec_l9Copy) (ps := [.val true cVtab false]) (rs := [.val true cVtab true]) g_211 mixed Tryz.func212 (by kernel_rfl) (by kernel_rfl : Tryz.f212.body = some (codeOf Tryz.f212))
  rw [e_spec_l9Copy] at h
  exact h
noncomputable def fns_212 : List (FuncId × Fn) := (212, F_spec_l9Copy) :: fns_211
theorem g_212 : Good Tryz.prog ⟨tis, fns_212, [], false⟩ := g_211.cons m_spec_l9Copy
noncomputable def spec_l11Copy (b0 : Bridge) : Option Bridge :=
  (app ([] : List Pt) b0.2.2.1).bind fun zs8 =>
  (spec_l8Copy b0.2.2.2.1).bind fun t12 =>
  (spec_l9Copy (b0.2.2.2.2.1, b0.2.2.2.2.2.1)).bind fun t16 =>
  some (b0.1, b0.2.1, zs8, t12, t16.1, t16.2, b0.2.2.2.2.2.2.1, b0.2.2.2.2.2.2.2.1, b0.2.2.2.2.2.2.2.2.1, b0.2.2.2.2.2.2.2.2.2.1, b0.2.2.2.2.2.2.2.2.2.2)
noncomputable def F_spec_l11Copy : Fn := ⟨[.val true cBridge false], [.val true cBridge true], fun a => spec_l11Copy a⟩
def a_spec_l11Copy : List (Nat × LoopAnn) := []
theorem e_spec_l11Copy : fnDen ⟨tis, fns_212, [], false⟩ a_spec_l11Copy Tryz.f93 (codeOf Tryz.f93) [.val true cBridge false] [.val true cBridge true] = fun a => spec_l11Copy a := by kernel_rfl
theorem m_spec_l11Copy : Meets Tryz.prog 93 F_spec_l11Copy := by
  have h := meets_of (ann := a_spec_l11Copy) (ps := [.val true cBridge false]) (rs := [.val true cBridge true]) g_212 mixed Tryz.func93 (by kernel_rfl) (by kernel_rfl : Tryz.f93.body = some (codeOf Tryz.f93))
  rw [e_spec_l11Copy] at h
  exact h
noncomputable def fns_93 : List (FuncId × Fn) := (93, F_spec_l11Copy) :: fns_212
theorem g_93 : Good Tryz.prog ⟨tis, fns_93, [], false⟩ := g_212.cons m_spec_l11Copy
noncomputable def spec_l1In (x0 : Int) (least1 : Int) (most2 : Int) : Option Bool :=
  (cond (decide (x0 ≥ least1)) (some (decide (x0 ≤ most2))) (some false)).bind fun t14 =>
  some t14
noncomputable def F_spec_l1In : Fn := ⟨[.val false (.one (.int .i64)) false, .val false (.one (.int .i64)) false, .val false (.one (.int .i64)) false], [.val false (.one .bool) true], fun a => spec_l1In a.1 a.2.1 a.2.2⟩
def a_spec_l1In : List (Nat × LoopAnn) := []
theorem e_spec_l1In : fnDen ⟨tis, fns_93, [], false⟩ a_spec_l1In Tryz.f150 (codeOf Tryz.f150) [.val false (.one (.int .i64)) false, .val false (.one (.int .i64)) false, .val false (.one (.int .i64)) false] [.val false (.one .bool) true] = fun a => spec_l1In a.1 a.2.1 a.2.2 := by kernel_rfl
theorem m_spec_l1In : Meets Tryz.prog 150 F_spec_l1In := by
  have h := meets_of (ann := a_spec_l1In) (ps := [.val false (.one (.int .i64)) false, .val false (.one (.int .i64)) false, .val false (.one (.int .i64)) false]) (rs := [.val false (.one .bool) true]) g_93 mixed Tryz.func150 (by kernel_rfl) (by kernel_rfl : Tryz.f150.body = some (codeOf Tryz.f150))
  rw [e_spec_l1In] at h
  exact h
noncomputable def fns_150 : List (FuncId × Fn) := (150, F_spec_l1In) :: fns_93
theorem g_150 : Good Tryz.prog ⟨tis, fns_150, [], false⟩ := g_93.cons m_spec_l1In
noncomputable def spec_RowAt_l0 (v0 : Vtab) (id1 : Int) (i5 : Int) : Option (Int ⊕ (Unit ⊕ Int)) :=
  cond (decide (i5 < (v0.1.length : Int)))
    ((at? v0.1 i5).bind fun x16 =>
    cond (x16.1 == id1) (some (.inr (.inr i5))) (some (.inl (w64 (i5 + 1)))))
    (some (.inr (.inl ())))
noncomputable def spec_RowAt (v0 : Vtab) (id1 : Int) : Option Int :=
  (loop (fun z => spec_RowAt_l0 v0 id1 z) 0).bind (Sum.elim (fun d =>
    some (-1)) (fun r => some r))
noncomputable def F_spec_RowAt : Fn := ⟨[.val true cVtab false, .val false (.one (.int .i64)) false], [.val false (.one (.int .i64)) true], fun a => spec_RowAt a.1 a.2⟩
def a_spec_RowAt : List (Nat × LoopAnn) := [(0, ⟨⟨[(5, false, [.dat (.int .i64)])], []⟩,
    ⟨[], []⟩, some ⟨[(4, false, [.dat (.int .i64)])], []⟩⟩)]
theorem e_spec_RowAt : fnDen ⟨tis, fns_150, [], false⟩ a_spec_RowAt Tryz.f220 (codeOf Tryz.f220) [.val true cVtab false, .val false (.one (.int .i64)) false] [.val false (.one (.int .i64)) true] = fun a => spec_RowAt a.1 a.2 := by kernel_rfl
theorem m_spec_RowAt : Meets Tryz.prog 220 F_spec_RowAt := by
  have h := meets_of (ann := a_spec_RowAt) (ps := [.val true cVtab false, .val false (.one (.int .i64)) false]) (rs := [.val false (.one (.int .i64)) true]) g_150 mixed Tryz.func220 (by kernel_rfl) (by kernel_rfl : Tryz.f220.body = some (codeOf Tryz.f220))
  rw [e_spec_RowAt] at h
  exact h
noncomputable def fns_220 : List (FuncId × Fn) := (220, F_spec_RowAt) :: fns_150
theorem g_220 : Good Tryz.prog ⟨tis, fns_220, [], false⟩ := g_150.cons m_spec_RowAt
noncomputable def spec_VtabOk_l0 (p0 : Vtab) (t27 : Int) (t6 : Int) : Option (Int ⊕ (Unit ⊕ Bool)) :=
  cond (decide (t6 < (p0.1.length : Int)))
    ((at? p0.1 t6).bind fun x39 =>
    (spec_l1In x39.1 1 99).bind fun t43 =>
    (cond (!t43)
      (some true)
      ((spec_l1In x39.2.1 0 (w64 (t27 - 1))).bind fun t49 =>
      some (!t49))).bind fun t51 =>
    (cond t51
      (some true)
      ((spec_l1In x39.2.2 0 (w64 (t27 - 1))).bind fun t56 =>
      some (!t56))).bind fun t58 =>
    (cond t58 (some true) (some ((band .i64 x39.2.2 x39.2.1) != x39.2.2))).bind fun t68 =>
    (cond t68
      (some true)
      ((cond (decide (t6 > 0))
        ((at? p0.1 (w64 (t6 - 1))).bind fun x77 =>
        some (decide (x77.1 ≥ x39.1)))
        (some false)).bind fun t83 =>
      some t83)).bind fun t84 =>
    cond t84 (some (.inr (.inr false))) (some (.inl (w64 (t6 + 1)))))
    (some (.inr (.inl ())))
noncomputable def spec_VtabOk_l2 (p0 : Vtab) (t8 : Int) : Option (Int ⊕ (Unit ⊕ Bool)) :=
  cond (decide (t8 < (p0.2.length : Int)))
    ((at? p0.2 t8).bind fun x96 =>
    (spec_RowAt p0 x96).bind fun t98 =>
    cond (decide (t98 < 0)) (some (.inr (.inr false))) (some (.inl (w64 (t8 + 1)))))
    (some (.inr (.inl ())))
noncomputable def spec_VtabOk (p0 : Vtab) (i1 : Int) : Option Bool :=
  (spec_l1In i1 1 6).bind fun t10 =>
  (cond (!t10) (some true) (some ((p0.2.length : Int) != i1))).bind fun t18 =>
  (cond t18 (some true) (some (decide ((p0.1.length : Int) > 6)))).bind fun t24 =>
  cond t24
    (some false)
    ((shl .i64 1 (IntKind.u64.wrap (i1))).bind fun t27 =>
    (loop (fun z => spec_VtabOk_l0 p0 t27 z) 0).bind (Sum.elim (fun d =>
      (loop (fun z => spec_VtabOk_l2 p0 z) 0).bind (Sum.elim (fun d_1 =>
        some true) (fun r => some r))) (fun r_1 => some r_1)))
noncomputable def F_spec_VtabOk : Fn := ⟨[.val true cVtab false, .val false (.one (.int .i64)) false], [.val false (.one .bool) true], fun a => spec_VtabOk a.1 a.2⟩
def a_spec_VtabOk : List (Nat × LoopAnn) := [(0, ⟨⟨[(6, false, [.dat (.int .i64)]), (46, false, [.undef]), (47, false, [.undef]), (48, false, [.undef]), (49, false, [.undef]), (50, false, [.undef]), (53, false, [.undef]), (54, false, [.undef]), (55, false, [.undef]), (56, false, [.undef]), (57, false, [.undef]), (60, false, [.undef]), (61, false, [.undef]), (62, false, [.undef]), (63, false, [.undef]), (64, false, [.undef]), (65, false, [.undef]), (66, false, [.undef]), (67, false, [.undef]), (70, false, [.undef]), (71, false, [.undef]), (72, false, [.undef]), (73, false, [.undef]), (74, false, [.undef]), (75, false, [.undef]), (76, false, [.undef]), (77, false, [.undef]), (78, false, [.undef]), (79, false, [.undef]), (80, false, [.undef]), (81, false, [.undef]), (82, false, [.undef]), (83, false, [.undef])], []⟩,
    ⟨[], []⟩, some ⟨[(4, false, [.dat .bool])], []⟩⟩),
  (2, ⟨⟨[(8, false, [.dat (.int .i64)])], []⟩,
    ⟨[], []⟩, some ⟨[(4, false, [.dat .bool])], []⟩⟩)]
theorem e_spec_VtabOk : fnDen ⟨tis, fns_220, [], false⟩ a_spec_VtabOk Tryz.f97 (codeOf Tryz.f97) [.val true cVtab false, .val false (.one (.int .i64)) false] [.val false (.one .bool) true] = fun a => spec_VtabOk a.1 a.2 := by kernel_rfl
theorem m_spec_VtabOk : Meets Tryz.prog 97 F_spec_VtabOk := by
  have h := meets_of (ann := a_spec_VtabOk) (ps := [.val true cVtab false, .val false (.one (.int .i64)) false]) (rs := [.val false (.one .bool) true]) g_220 mixed Tryz.func97 (by kernel_rfl) (by kernel_rfl : Tryz.f97.body = some (codeOf Tryz.f97))
  rw [e_spec_VtabOk] at h
  exact h
noncomputable def fns_97 : List (FuncId × Fn) := (97, F_spec_VtabOk) :: fns_220
theorem g_97 : Good Tryz.prog ⟨tis, fns_97, [], false⟩ := g_220.cons m_spec_VtabOk
noncomputable def spec_VecOk (v0 : Vec) : Option Bool :=
  (spec_l1In v0.1 1 99).bind fun t5 =>
  (cond t5
    ((spec_l1In v0.2.1 0 100000).bind fun t9 =>
    some t9)
    (some false)).bind fun t10 =>
  (cond t10
    ((spec_l1In v0.2.2.1 0 10).bind fun t14 =>
    some t14)
    (some false)).bind fun t15 =>
  (cond t15
    ((spec_l1In v0.2.2.2.1 1 99).bind fun t19 =>
    some t19)
    (some false)).bind fun t20 =>
  (cond t20
    ((spec_l1In v0.2.2.2.2 0 7).bind fun t24 =>
    some t24)
    (some false)).bind fun t25 =>
  some t25
noncomputable def F_spec_VecOk : Fn := ⟨[.val true cVec false], [.val false (.one .bool) true], fun a => spec_VecOk a⟩
def a_spec_VecOk : List (Nat × LoopAnn) := []
theorem e_spec_VecOk : fnDen ⟨tis, fns_97, [], false⟩ a_spec_VecOk Tryz.f255 (codeOf Tryz.f255) [.val true cVec false] [.val false (.one .bool) true] = fun a => spec_VecOk a := by kernel_rfl
theorem m_spec_VecOk : Meets Tryz.prog 255 F_spec_VecOk := by
  have h := meets_of (ann := a_spec_VecOk) (ps := [.val true cVec false]) (rs := [.val false (.one .bool) true]) g_97 mixed Tryz.func255 (by kernel_rfl) (by kernel_rfl : Tryz.f255.body = some (codeOf Tryz.f255))
  rw [e_spec_VecOk] at h
  exact h
noncomputable def fns_255 : List (FuncId × Fn) := (255, F_spec_VecOk) :: fns_97
theorem g_255 : Good Tryz.prog ⟨tis, fns_255, [], false⟩ := g_97.cons m_spec_VecOk
noncomputable def spec_PtOk (p0 : Pt) : Option Bool :=
  (spec_l1In p0.2.1 1 1000).bind fun t5 =>
  (cond (!t5)
    (some true)
    ((cond (!p0.1) (some p0.2.2.1) (some false)).bind fun t14 =>
    some t14)).bind fun t15 =>
  cond t15
    (some false)
    (cond (!p0.2.2.1)
      (let t2 := p0.2.2.2.1 == 0 && (p0.2.2.2.2.1 == 0 && (p0.2.2.2.2.2.1 == 0 && (p0.2.2.2.2.2.2.1 == 0 && (p0.2.2.2.2.2.2.2 == 0))))
      some t2)
      ((spec_VecOk p0.2.2.2).bind fun t25 =>
      some t25))
noncomputable def F_spec_PtOk : Fn := ⟨[.val true cPt false], [.val false (.one .bool) true], fun a => spec_PtOk a⟩
def a_spec_PtOk : List (Nat × LoopAnn) := []
theorem e_spec_PtOk : fnDen ⟨tis, fns_255, [], false⟩ a_spec_PtOk Tryz.f213 (codeOf Tryz.f213) [.val true cPt false] [.val false (.one .bool) true] = fun a => spec_PtOk a := by kernel_rfl
theorem m_spec_PtOk : Meets Tryz.prog 213 F_spec_PtOk := by
  have h := meets_of (ann := a_spec_PtOk) (ps := [.val true cPt false]) (rs := [.val false (.one .bool) true]) g_255 mixed Tryz.func213 (by kernel_rfl) (by kernel_rfl : Tryz.f213.body = some (codeOf Tryz.f213))
  rw [e_spec_PtOk] at h
  exact h
noncomputable def fns_213 : List (FuncId × Fn) := (213, F_spec_PtOk) :: fns_255
theorem g_213 : Good Tryz.prog ⟨tis, fns_213, [], false⟩ := g_255.cons m_spec_PtOk
noncomputable def spec_l8Ent (e0 : Fent) : Option Bool :=
  (spec_l1In e0.1 1 99).bind fun t5 =>
  (cond t5
    ((spec_l1In e0.2.1 1 9999).bind fun t9 =>
    some t9)
    (some false)).bind fun t10 =>
  (cond t10
    ((spec_l1In e0.2.2.1 0 7).bind fun t14 =>
    some t14)
    (some false)).bind fun t15 =>
  (cond t15
    ((spec_l1In e0.2.2.2.1 0 4).bind fun t19 =>
    some t19)
    (some false)).bind fun t20 =>
  (cond t20
    ((cond (!e0.2.2.2.2) (some true) (some (e0.2.2.2.1 == 0))).bind fun t29 =>
    some t29)
    (some false)).bind fun t30 =>
  some t30
noncomputable def F_spec_l8Ent : Fn := ⟨[.val true cFent false], [.val false (.one .bool) true], fun a => spec_l8Ent a⟩
def a_spec_l8Ent : List (Nat × LoopAnn) := []
theorem e_spec_l8Ent : fnDen ⟨tis, fns_213, [], false⟩ a_spec_l8Ent Tryz.f301 (codeOf Tryz.f301) [.val true cFent false] [.val false (.one .bool) true] = fun a => spec_l8Ent a := by kernel_rfl
theorem m_spec_l8Ent : Meets Tryz.prog 301 F_spec_l8Ent := by
  have h := meets_of (ann := a_spec_l8Ent) (ps := [.val true cFent false]) (rs := [.val false (.one .bool) true]) g_213 mixed Tryz.func301 (by kernel_rfl) (by kernel_rfl : Tryz.f301.body = some (codeOf Tryz.f301))
  rw [e_spec_l8Ent] at h
  exact h
noncomputable def fns_301 : List (FuncId × Fn) := (301, F_spec_l8Ent) :: fns_213
theorem g_301 : Good Tryz.prog ⟨tis, fns_301, [], false⟩ := g_213.cons m_spec_l8Ent
noncomputable def spec_l8Ahead (e0 : Fent) (tag1 : Int) (mac2 : Int) : Option Bool :=
  cond (e0.1 != tag1) (some (decide (e0.1 < tag1))) (some (decide (e0.2.1 < mac2)))
noncomputable def F_spec_l8Ahead : Fn := ⟨[.val true cFent false, .val false (.one (.int .i64)) false, .val false (.one (.int .i64)) false], [.val false (.one .bool) true], fun a => spec_l8Ahead a.1 a.2.1 a.2.2⟩
def a_spec_l8Ahead : List (Nat × LoopAnn) := []
theorem e_spec_l8Ahead : fnDen ⟨tis, fns_301, [], false⟩ a_spec_l8Ahead Tryz.f310 (codeOf Tryz.f310) [.val true cFent false, .val false (.one (.int .i64)) false, .val false (.one (.int .i64)) false] [.val false (.one .bool) true] = fun a => spec_l8Ahead a.1 a.2.1 a.2.2 := by kernel_rfl
theorem m_spec_l8Ahead : Meets Tryz.prog 310 F_spec_l8Ahead := by
  have h := meets_of (ann := a_spec_l8Ahead) (ps := [.val true cFent false, .val false (.one (.int .i64)) false, .val false (.one (.int .i64)) false]) (rs := [.val false (.one .bool) true]) g_301 mixed Tryz.func310 (by kernel_rfl) (by kernel_rfl : Tryz.f310.body = some (codeOf Tryz.f310))
  rw [e_spec_l8Ahead] at h
  exact h
noncomputable def fns_310 : List (FuncId × Fn) := (310, F_spec_l8Ahead) :: fns_301
theorem g_310 : Good Tryz.prog ⟨tis, fns_310, [], false⟩ := g_301.cons m_spec_l8Ahead
noncomputable def spec_FdbOk_l0 (l0 : List Fent) (i3 : Int) : Option (Int ⊕ (Unit ⊕ Bool)) :=
  cond (decide (i3 < (l0.length : Int)))
    ((at? l0 i3).bind fun x12 =>
    (spec_l8Ent x12).bind fun t14 =>
    (cond (!t14)
      (some true)
      ((cond (decide (i3 > 0))
        ((at? l0 (w64 (i3 - 1))).bind fun x23 =>
        (at? l0 i3).bind fun x27 =>
        (at? l0 i3).bind fun x32 =>
        (spec_l8Ahead x23 x27.1 x32.2.1).bind fun t35 =>
        some (!t35))
        (some false)).bind fun t37 =>
      some t37)).bind fun t38 =>
    cond t38 (some (.inr (.inr false))) (some (.inl (w64 (i3 + 1)))))
    (some (.inr (.inl ())))
noncomputable def spec_FdbOk (l0 : List Fent) : Option Bool :=
  (loop (fun z => spec_FdbOk_l0 l0 z) 0).bind (Sum.elim (fun d =>
    let t2 := decide ((l0.length : Int) ≤ 12)
    some t2) (fun r => some r))
noncomputable def F_spec_FdbOk : Fn := ⟨[.val false (.one (.sl cFent)) false], [.val false (.one .bool) true], fun a => spec_FdbOk a⟩
def a_spec_FdbOk : List (Nat × LoopAnn) := [(0, ⟨⟨[(3, false, [.dat (.int .i64)]), (17, false, [.undef]), (18, false, [.undef]), (19, false, [.undef]), (20, false, [.undef]), (21, false, [.undef]), (22, false, [.undef]), (23, false, [.undef]), (24, false, [.undef]), (25, false, [.undef]), (26, false, [.undef]), (27, false, [.undef]), (28, false, [.undef]), (29, false, [.undef]), (30, false, [.undef]), (31, false, [.undef]), (32, false, [.undef]), (33, false, [.undef]), (34, false, [.undef]), (35, false, [.undef]), (36, false, [.undef]), (37, false, [.undef])], []⟩,
    ⟨[], []⟩, some ⟨[(2, false, [.dat .bool])], []⟩⟩)]
theorem e_spec_FdbOk : fnDen ⟨tis, fns_310, [], false⟩ a_spec_FdbOk Tryz.f214 (codeOf Tryz.f214) [.val false (.one (.sl cFent)) false] [.val false (.one .bool) true] = fun a => spec_FdbOk a := by kernel_rfl
theorem m_spec_FdbOk : Meets Tryz.prog 214 F_spec_FdbOk := by
  have h := meets_of (ann := a_spec_FdbOk) (ps := [.val false (.one (.sl cFent)) false]) (rs := [.val false (.one .bool) true]) g_310 mixed Tryz.func214 (by kernel_rfl) (by kernel_rfl : Tryz.f214.body = some (codeOf Tryz.f214))
  rw [e_spec_FdbOk] at h
  exact h
noncomputable def fns_214 : List (FuncId × Fn) := (214, F_spec_FdbOk) :: fns_310
theorem g_214 : Good Tryz.prog ⟨tis, fns_214, [], false⟩ := g_310.cons m_spec_FdbOk
noncomputable def spec_l11Counts (b0 : Bridge) : Option Bool :=
  (spec_l1In b0.2.2.2.2.2.2.1 0 1000000).bind fun t5 =>
  (cond t5
    ((spec_l1In b0.2.2.2.2.2.2.2.1 0 1000000).bind fun t9 =>
    some t9)
    (some false)).bind fun t10 =>
  (cond t10
    ((spec_l1In b0.2.2.2.2.2.2.2.2.1 0 1000000).bind fun t14 =>
    some t14)
    (some false)).bind fun t15 =>
  (cond t15
    ((spec_l1In b0.2.2.2.2.2.2.2.2.2.1 0 1000000).bind fun t19 =>
    some t19)
    (some false)).bind fun t20 =>
  (cond t20
    ((spec_l1In b0.2.2.2.2.2.2.2.2.2.2 0 1000000).bind fun t24 =>
    some t24)
    (some false)).bind fun t25 =>
  some t25
noncomputable def F_spec_l11Counts : Fn := ⟨[.val true cBridge false], [.val false (.one .bool) true], fun a => spec_l11Counts a⟩
def a_spec_l11Counts : List (Nat × LoopAnn) := []
theorem e_spec_l11Counts : fnDen ⟨tis, fns_214, [], false⟩ a_spec_l11Counts Tryz.f215 (codeOf Tryz.f215) [.val true cBridge false] [.val false (.one .bool) true] = fun a => spec_l11Counts a := by kernel_rfl
theorem m_spec_l11Counts : Meets Tryz.prog 215 F_spec_l11Counts := by
  have h := meets_of (ann := a_spec_l11Counts) (ps := [.val true cBridge false]) (rs := [.val false (.one .bool) true]) g_214 mixed Tryz.func215 (by kernel_rfl) (by kernel_rfl : Tryz.f215.body = some (codeOf Tryz.f215))
  rw [e_spec_l11Counts] at h
  exact h
noncomputable def fns_215 : List (FuncId × Fn) := (215, F_spec_l11Counts) :: fns_214
theorem g_215 : Good Tryz.prog ⟨tis, fns_215, [], false⟩ := g_214.cons m_spec_l11Counts
noncomputable def spec_BridgeOk_l0 (b0 : Bridge) (i3 : Int) : Option (Int ⊕ (Unit ⊕ Bool)) :=
  cond (decide (i3 < (b0.2.2.1.length : Int)))
    ((at? b0.2.2.1 i3).bind fun x14 =>
    (spec_PtOk x14).bind fun t16 =>
    cond (!t16) (some (.inr (.inr false))) (some (.inl (w64 (i3 + 1)))))
    (some (.inr (.inl ())))
noncomputable def spec_BridgeOk (b0 : Bridge) : Option Bool :=
  (loop (fun z => spec_BridgeOk_l0 b0 z) 0).bind (Sum.elim (fun d =>
    (spec_l1In b0.1 1 99).bind fun t20 =>
    (cond t20 (some (decide ((b0.2.1.length : Int) ≤ 10))) (some false)).bind fun t26 =>
    (cond t26
      ((spec_l1In (b0.2.2.1.length : Int) 1 6).bind fun t31 =>
      some t31)
      (some false)).bind fun t32 =>
    (cond t32
      ((spec_FdbOk b0.2.2.2.1).bind fun t36 =>
      some t36)
      (some false)).bind fun t37 =>
    (cond t37
      ((spec_VtabOk (b0.2.2.2.2.1, b0.2.2.2.2.2.1) (b0.2.2.1.length : Int)).bind fun t44 =>
      some t44)
      (some false)).bind fun t45 =>
    (cond t45
      ((spec_l11Counts b0).bind fun t48 =>
      some t48)
      (some false)).bind fun t49 =>
    some t49) (fun r => some r))
noncomputable def F_spec_BridgeOk : Fn := ⟨[.val true cBridge false], [.val false (.one .bool) true], fun a => spec_BridgeOk a⟩
def a_spec_BridgeOk : List (Nat × LoopAnn) := [(0, ⟨⟨[(3, false, [.dat (.int .i64)])], []⟩,
    ⟨[], []⟩, some ⟨[(2, false, [.dat .bool])], []⟩⟩)]
theorem e_spec_BridgeOk : fnDen ⟨tis, fns_215, [], false⟩ a_spec_BridgeOk Tryz.f94 (codeOf Tryz.f94) [.val true cBridge false] [.val false (.one .bool) true] = fun a => spec_BridgeOk a := by kernel_rfl
theorem m_spec_BridgeOk : Meets Tryz.prog 94 F_spec_BridgeOk := by
  have h := meets_of (ann := a_spec_BridgeOk) (ps := [.val true cBridge false]) (rs := [.val false (.one .bool) true]) g_215 mixed Tryz.func94 (by kernel_rfl) (by kernel_rfl : Tryz.f94.body = some (codeOf Tryz.f94))
  rw [e_spec_BridgeOk] at h
  exact h
noncomputable def fns_94 : List (FuncId × Fn) := (94, F_spec_BridgeOk) :: fns_215
theorem g_94 : Good Tryz.prog ⟨tis, fns_94, [], false⟩ := g_215.cons m_spec_BridgeOk
noncomputable def spec_SameOid_l0 (a0 : List Int) (b1 : List Int) (i5 : Int) : Option (Int ⊕ (Unit ⊕ Bool)) :=
  cond (decide (i5 < (a0.length : Int)))
    ((at? a0 i5).bind fun x19 =>
    (at? b1 i5).bind fun x23 =>
    cond (x19 != x23) (some (.inr (.inr false))) (some (.inl (w64 (i5 + 1)))))
    (some (.inr (.inl ())))
noncomputable def spec_SameOid (a0 : List Int) (b1 : List Int) : Option Bool :=
  cond ((a0.length : Int) != (b1.length : Int))
    (some false)
    ((loop (fun z => spec_SameOid_l0 a0 b1 z) 0).bind (Sum.elim (fun d =>
      some true) (fun r => some r)))
noncomputable def F_spec_SameOid : Fn := ⟨[.val false (.one (.sl (.one (.int .i64)))) false, .val false (.one (.sl (.one (.int .i64)))) false], [.val false (.one .bool) true], fun a => spec_SameOid a.1 a.2⟩
def a_spec_SameOid : List (Nat × LoopAnn) := [(0, ⟨⟨[(5, false, [.dat (.int .i64)])], []⟩,
    ⟨[], []⟩, some ⟨[(4, false, [.dat .bool])], []⟩⟩)]
theorem e_spec_SameOid : fnDen ⟨tis, fns_94, [], false⟩ a_spec_SameOid Tryz.f95 (codeOf Tryz.f95) [.val false (.one (.sl (.one (.int .i64)))) false, .val false (.one (.sl (.one (.int .i64)))) false] [.val false (.one .bool) true] = fun a => spec_SameOid a.1 a.2 := by kernel_rfl
theorem m_spec_SameOid : Meets Tryz.prog 95 F_spec_SameOid := by
  have h := meets_of (ann := a_spec_SameOid) (ps := [.val false (.one (.sl (.one (.int .i64)))) false, .val false (.one (.sl (.one (.int .i64)))) false]) (rs := [.val false (.one .bool) true]) g_94 mixed Tryz.func95 (by kernel_rfl) (by kernel_rfl : Tryz.f95.body = some (codeOf Tryz.f95))
  rw [e_spec_SameOid] at h
  exact h
noncomputable def fns_95 : List (FuncId × Fn) := (95, F_spec_SameOid) :: fns_94
theorem g_95 : Good Tryz.prog ⟨tis, fns_95, [], false⟩ := g_94.cons m_spec_SameOid
noncomputable def spec_Below (o0 : List Int) (head1 : List Int) : Option Bool :=
  (cond (decide ((o0.length : Int) > (head1.length : Int)))
    ((cut o0 0 (head1.length : Int)).bind fun t14 =>
    (spec_SameOid t14 head1).bind fun t16 =>
    some t16)
    (some false)).bind fun t17 =>
  some t17
noncomputable def F_spec_Below : Fn := ⟨[.val false (.one (.sl (.one (.int .i64)))) false, .val false (.one (.sl (.one (.int .i64)))) false], [.val false (.one .bool) true], fun a => spec_Below a.1 a.2⟩
def a_spec_Below : List (Nat × LoopAnn) := []
theorem e_spec_Below : fnDen ⟨tis, fns_95, [], false⟩ a_spec_Below Tryz.f355 (codeOf Tryz.f355) [.val false (.one (.sl (.one (.int .i64)))) false, .val false (.one (.sl (.one (.int .i64)))) false] [.val false (.one .bool) true] = fun a => spec_Below a.1 a.2 := by kernel_rfl
theorem m_spec_Below : Meets Tryz.prog 355 F_spec_Below := by
  have h := meets_of (ann := a_spec_Below) (ps := [.val false (.one (.sl (.one (.int .i64)))) false, .val false (.one (.sl (.one (.int .i64)))) false]) (rs := [.val false (.one .bool) true]) g_95 mixed Tryz.func355 (by kernel_rfl) (by kernel_rfl : Tryz.f355.body = some (codeOf Tryz.f355))
  rw [e_spec_Below] at h
  exact h
noncomputable def fns_355 : List (FuncId × Fn) := (355, F_spec_Below) :: fns_95
theorem g_355 : Good Tryz.prog ⟨tis, fns_355, [], false⟩ := g_95.cons m_spec_Below
noncomputable def spec_l18Below (o0 : List Int) : Option ((List Int) × Bool) :=
  (spec_Below o0 ([1, 3, 1] : List Int)).bind fun t6 =>
  cond (!t6)
    (some (([] : List Int), false))
    ((cut o0 3 (o0.length : Int)).bind fun t10 =>
    some (t10, true))
noncomputable def F_spec_l18Below : Fn := ⟨[.val false (.one (.sl (.one (.int .i64)))) false], [.val false (.one (.sl (.one (.int .i64)))) false, .val false (.one .bool) true], fun a => spec_l18Below a⟩
def a_spec_l18Below : List (Nat × LoopAnn) := []
theorem e_spec_l18Below : fnDen ⟨tis, fns_355, [], false⟩ a_spec_l18Below Tryz.f311 (codeOf Tryz.f311) [.val false (.one (.sl (.one (.int .i64)))) false] [.val false (.one (.sl (.one (.int .i64)))) false, .val false (.one .bool) true] = fun a => spec_l18Below a := by kernel_rfl
theorem m_spec_l18Below : Meets Tryz.prog 311 F_spec_l18Below := by
  have h := meets_of (ann := a_spec_l18Below) (ps := [.val false (.one (.sl (.one (.int .i64)))) false]) (rs := [.val false (.one (.sl (.one (.int .i64)))) false, .val false (.one .bool) true]) g_355 mixed Tryz.func311 (by kernel_rfl) (by kernel_rfl : Tryz.f311.body = some (codeOf Tryz.f311))
  rw [e_spec_l18Below] at h
  exact h
noncomputable def fns_311 : List (FuncId × Fn) := (311, F_spec_l18Below) :: fns_355
theorem g_311 : Good Tryz.prog ⟨tis, fns_311, [], false⟩ := g_355.cons m_spec_l18Below
noncomputable def spec_l18May (p0 : Bridge) (i1 : List Int) : Option Bool :=
  (spec_l18Below i1).bind fun t9 =>
  cond (!t9.2)
    (some false)
    (cond ((t9.1.length : Int) == 2)
      ((at? t9.1 0).bind fun x18 =>
      (cond (x18 == 1)
        ((at? t9.1 1).bind fun x23 =>
        some (x23 == 1))
        (some false)).bind fun t26 =>
      some t26)
      (cond ((t9.1.length : Int) != 3)
        (some false)
        ((at? t9.1 0).bind fun x31 =>
        cond (x31 == 2)
          ((at? t9.1 1).bind fun x36 =>
          (cond (x36 == 2)
            (some true)
            ((at? t9.1 1).bind fun x41 =>
            some (x41 == 4))).bind fun t44 =>
          (cond t44
            ((at? t9.1 2).bind fun x47 =>
            (spec_l1In x47 1 (p0.2.2.1.length : Int)).bind fun t52 =>
            some t52)
            (some false)).bind fun t53 =>
          some t53)
          (cond (x31 == 3)
            ((at? t9.1 1).bind fun x57 =>
            (cond (x57 == 1)
              ((at? t9.1 2).bind fun x62 =>
              (spec_l1In x62 1 99).bind fun t64 =>
              some t64)
              (some false)).bind fun t65 =>
            (cond t65
              (some true)
              ((at? t9.1 1).bind fun x68 =>
              (cond (x68 == 2)
                (some true)
                ((at? t9.1 1).bind fun x73 =>
                some (x73 == 3))).bind fun t76 =>
              (cond t76
                ((at? t9.1 2).bind fun x81 =>
                (spec_RowAt (p0.2.2.2.2.1, p0.2.2.2.2.2.1) x81).bind fun t83 =>
                some (decide (t83 ≥ 0)))
                (some false)).bind fun t85 =>
              some t85)).bind fun t86 =>
            some t86)
            (some false)))))
noncomputable def F_spec_l18May : Fn := ⟨[.val true cBridge false, .val false (.one (.sl (.one (.int .i64)))) false], [.val false (.one .bool) true], fun a => spec_l18May a.1 a.2⟩
def a_spec_l18May : List (Nat × LoopAnn) := []
theorem e_spec_l18May : fnDen ⟨tis, fns_311, [], false⟩ a_spec_l18May Tryz.f216 (codeOf Tryz.f216) [.val true cBridge false, .val false (.one (.sl (.one (.int .i64)))) false] [.val false (.one .bool) true] = fun a => spec_l18May a.1 a.2 := by kernel_rfl
theorem m_spec_l18May : Meets Tryz.prog 216 F_spec_l18May := by
  have h := meets_of (ann := a_spec_l18May) (ps := [.val true cBridge false, .val false (.one (.sl (.one (.int .i64)))) false]) (rs := [.val false (.one .bool) true]) g_311 mixed Tryz.func216 (by kernel_rfl) (by kernel_rfl : Tryz.f216.body = some (codeOf Tryz.f216))
  rw [e_spec_l18May] at h
  exact h
noncomputable def fns_216 : List (FuncId × Fn) := (216, F_spec_l18May) :: fns_311
theorem g_216 : Good Tryz.prog ⟨tis, fns_216, [], false⟩ := g_311.cons m_spec_l18May
noncomputable def spec_l8At_l0 (l0 : List Fent) (tag1 : Int) (mac2 : Int) (i7 : Int) : Option (Int ⊕ (Unit ⊕ Int)) :=
  cond (decide (i7 < (l0.length : Int)))
    ((at? l0 i7).bind fun x16 =>
    (cond (x16.1 == tag1)
      ((at? l0 i7).bind fun x24 =>
      some (x24.2.1 == mac2))
      (some false)).bind fun t29 =>
    cond t29 (some (.inr (.inr i7))) (some (.inl (w64 (i7 + 1)))))
    (some (.inr (.inl ())))
noncomputable def spec_l8At (l0 : List Fent) (tag1 : Int) (mac2 : Int) : Option Int :=
  (loop (fun z => spec_l8At_l0 l0 tag1 mac2 z) 0).bind (Sum.elim (fun d =>
    some (-1)) (fun r => some r))
noncomputable def F_spec_l8At : Fn := ⟨[.val false (.one (.sl cFent)) false, .val false (.one (.int .i64)) false, .val false (.one (.int .i64)) false], [.val false (.one (.int .i64)) true], fun a => spec_l8At a.1 a.2.1 a.2.2⟩
def a_spec_l8At : List (Nat × LoopAnn) := [(0, ⟨⟨[(7, false, [.dat (.int .i64)]), (22, false, [.undef]), (23, false, [.undef]), (24, false, [.undef]), (25, false, [.undef]), (26, false, [.undef]), (27, false, [.undef]), (28, false, [.undef])], []⟩,
    ⟨[], []⟩, some ⟨[(6, false, [.dat (.int .i64)])], []⟩⟩)]
theorem e_spec_l8At : fnDen ⟨tis, fns_216, [], false⟩ a_spec_l8At Tryz.f300 (codeOf Tryz.f300) [.val false (.one (.sl cFent)) false, .val false (.one (.int .i64)) false, .val false (.one (.int .i64)) false] [.val false (.one (.int .i64)) true] = fun a => spec_l8At a.1 a.2.1 a.2.2 := by kernel_rfl
theorem m_spec_l8At : Meets Tryz.prog 300 F_spec_l8At := by
  have h := meets_of (ann := a_spec_l8At) (ps := [.val false (.one (.sl cFent)) false, .val false (.one (.int .i64)) false, .val false (.one (.int .i64)) false]) (rs := [.val false (.one (.int .i64)) true]) g_216 mixed Tryz.func300 (by kernel_rfl) (by kernel_rfl : Tryz.f300.body = some (codeOf Tryz.f300))
  rw [e_spec_l8At] at h
  exact h
noncomputable def fns_300 : List (FuncId × Fn) := (300, F_spec_l8At) :: fns_216
theorem g_300 : Good Tryz.prog ⟨tis, fns_300, [], false⟩ := g_216.cons m_spec_l8At
noncomputable def spec_l18Seen (p0 : Bridge) (i1 : List Int) : Option Bool :=
  (spec_l18Below i1).bind fun t9 =>
  cond (!t9.2)
    (some false)
    (cond ((t9.1.length : Int) == 2)
      ((at? t9.1 0).bind fun x19 =>
      (cond (x19 == 1)
        ((at? t9.1 1).bind fun x24 =>
        (spec_l1In x24 2 5).bind fun t26 =>
        some t26)
        (some false)).bind fun t27 =>
      some t27)
      (cond ((t9.1.length : Int) == 3)
        ((at? t9.1 0).bind fun x31 =>
        (cond (x31 == 2)
          ((at? t9.1 1).bind fun x36 =>
          (cond (x36 == 1)
            (some true)
            ((at? t9.1 1).bind fun x41 =>
            some (x41 == 3))).bind fun t44 =>
          some t44)
          (some false)).bind fun t45 =>
        (cond t45
          ((at? t9.1 2).bind fun x48 =>
          (spec_l1In x48 1 (p0.2.2.1.length : Int)).bind fun t53 =>
          some t53)
          (some false)).bind fun t54 =>
        some t54)
        (cond ((t9.1.length : Int) == 4)
          ((at? t9.1 0).bind fun x58 =>
          (cond (x58 == 4)
            ((at? t9.1 1).bind fun x63 =>
            some (x63 == 1))
            (some false)).bind fun t66 =>
          (cond t66
            ((at? t9.1 2).bind fun x71 =>
            (at? t9.1 3).bind fun x74 =>
            (spec_l8At p0.2.2.2.1 x71 x74).bind fun t76 =>
            some (decide (t76 ≥ 0)))
            (some false)).bind fun t78 =>
          some t78)
          (some false))))
noncomputable def F_spec_l18Seen : Fn := ⟨[.val true cBridge false, .val false (.one (.sl (.one (.int .i64)))) false], [.val false (.one .bool) true], fun a => spec_l18Seen a.1 a.2⟩
def a_spec_l18Seen : List (Nat × LoopAnn) := []
theorem e_spec_l18Seen : fnDen ⟨tis, fns_300, [], false⟩ a_spec_l18Seen Tryz.f217 (codeOf Tryz.f217) [.val true cBridge false, .val false (.one (.sl (.one (.int .i64)))) false] [.val false (.one .bool) true] = fun a => spec_l18Seen a.1 a.2 := by kernel_rfl
theorem m_spec_l18Seen : Meets Tryz.prog 217 F_spec_l18Seen := by
  have h := meets_of (ann := a_spec_l18Seen) (ps := [.val true cBridge false, .val false (.one (.sl (.one (.int .i64)))) false]) (rs := [.val false (.one .bool) true]) g_300 mixed Tryz.func217 (by kernel_rfl) (by kernel_rfl : Tryz.f217.body = some (codeOf Tryz.f217))
  rw [e_spec_l18Seen] at h
  exact h
noncomputable def fns_217 : List (FuncId × Fn) := (217, F_spec_l18Seen) :: fns_300
theorem g_217 : Good Tryz.prog ⟨tis, fns_217, [], false⟩ := g_300.cons m_spec_l18Seen
noncomputable def spec_l18Port (b0 : Bridge) (c1 : Int) (p2 : Int) (n3 : Int) : Option (Bridge × Int) :=
  cond (c1 == 2)
    ((spec_l1In n3 1 1000).bind fun t13 =>
    cond (!t13)
      (some (b0, 2))
      ((ix b0.2.2.1.length p2).bind fun j20 =>
      (b0.2.2.1[j20]?).bind fun x =>
      some ((b0.1, b0.2.1, b0.2.2.1.set j20 (x.1, n3, x.2.2.1, x.2.2.2.1, x.2.2.2.2.1, x.2.2.2.2.2.1, x.2.2.2.2.2.2.1, x.2.2.2.2.2.2.2), b0.2.2.2.1, b0.2.2.2.2.1, b0.2.2.2.2.2.1, b0.2.2.2.2.2.2.1, b0.2.2.2.2.2.2.2.1, b0.2.2.2.2.2.2.2.2.1, b0.2.2.2.2.2.2.2.2.2.1, b0.2.2.2.2.2.2.2.2.2.2), 0)))
    ((ix b0.2.2.2.2.2.1.length p2).bind fun j28 =>
    (b0.2.2.2.2.2.1[j28]?).bind fun x_1 =>
    some ((b0.1, b0.2.1, b0.2.2.1, b0.2.2.2.1, b0.2.2.2.2.1, b0.2.2.2.2.2.1.set j28 n3, b0.2.2.2.2.2.2.1, b0.2.2.2.2.2.2.2.1, b0.2.2.2.2.2.2.2.2.1, b0.2.2.2.2.2.2.2.2.2.1, b0.2.2.2.2.2.2.2.2.2.2), 0))
noncomputable def F_spec_l18Port : Fn := ⟨[.val true cBridge true, .val false (.one (.int .i64)) false, .val false (.one (.int .i64)) false, .val false (.one (.int .i64)) false], [.val true cBridge true, .val false (.one (.int .i64)) true], fun a => spec_l18Port a.1 a.2.1 a.2.2.1 a.2.2.2⟩
def a_spec_l18Port : List (Nat × LoopAnn) := []
theorem e_spec_l18Port : fnDen ⟨tis, fns_217, [], false⟩ a_spec_l18Port Tryz.f218 (codeOf Tryz.f218) [.val true cBridge true, .val false (.one (.int .i64)) false, .val false (.one (.int .i64)) false, .val false (.one (.int .i64)) false] [.val true cBridge true, .val false (.one (.int .i64)) true] = fun a => spec_l18Port a.1 a.2.1 a.2.2.1 a.2.2.2 := by kernel_rfl
theorem m_spec_l18Port : Meets Tryz.prog 218 F_spec_l18Port := by
  have h := meets_of (ann := a_spec_l18Port) (ps := [.val true cBridge true, .val false (.one (.int .i64)) false, .val false (.one (.int .i64)) false, .val false (.one (.int .i64)) false]) (rs := [.val true cBridge true, .val false (.one (.int .i64)) true]) g_217 mixed Tryz.func218 (by kernel_rfl) (by kernel_rfl : Tryz.f218.body = some (codeOf Tryz.f218))
  rw [e_spec_l18Port] at h
  exact h
noncomputable def fns_218 : List (FuncId × Fn) := (218, F_spec_l18Port) :: fns_217
theorem g_218 : Good Tryz.prog ⟨tis, fns_218, [], false⟩ := g_217.cons m_spec_l18Port
noncomputable def spec_l9Row_l0 (p0 : Vtab) (i1 : Vrow) (t6 : Bool) (t7 : Int) (b0 : List Vrow) : Option ((Bool × Int × List Vrow) ⊕ (Bool × List Vrow)) :=
  cond (decide (t7 < (p0.1.length : Int)))
    ((cond (!t6)
      ((at? p0.1 t7).bind fun x26 =>
      some (decide (x26.1 ≥ i1.1)))
      (some false)).bind fun t32 =>
    cond t32
      ((app b0 [i1]).bind fun zs37 =>
      (at? p0.1 t7).bind fun x42 =>
      cond (x42.1 != i1.1)
        ((at? p0.1 t7).bind fun x53 =>
        (app zs37 [x53]).bind fun zs56 =>
        some (.inl (true, w64 (t7 + 1), zs56)))
        (some (.inl (true, w64 (t7 + 1), zs37))))
      ((at? p0.1 t7).bind fun x42_1 =>
      cond (x42_1.1 != i1.1)
        ((at? p0.1 t7).bind fun x53_1 =>
        (app b0 [x53_1]).bind fun zs56_1 =>
        some (.inl (t6, w64 (t7 + 1), zs56_1)))
        (some (.inl (t6, w64 (t7 + 1), b0)))))
    (some (.inr (t6, b0)))
noncomputable def spec_l9Row (p0 : Vtab) (i1 : Vrow) : Option Vtab :=
  (app ([] : List Int) p0.2).bind fun zs11 =>
  (loop (fun z => spec_l9Row_l0 p0 i1 z.1 z.2.1 z.2.2) (false, 0, [])).bind fun d =>
  cond (!d.1)
    ((app d.2 [i1]).bind fun zs64 =>
    some (zs64, zs11))
    (some (d.2, zs11))
noncomputable def F_spec_l9Row : Fn := ⟨[.val true cVtab false, .val true cVrow false], [.val true cVtab true], fun a => spec_l9Row a.1 a.2⟩
def a_spec_l9Row : List (Nat × LoopAnn) := [(0, ⟨⟨[(6, false, [.dat .bool]), (7, false, [.dat (.int .i64)]), (23, false, [.undef]), (24, false, [.undef]), (25, false, [.undef]), (26, false, [.undef]), (27, false, [.undef]), (28, false, [.undef]), (29, false, [.undef]), (30, false, [.undef]), (31, false, [.undef])], [(268288, .box [.own 1000000000, .same 266240]), (1000000000, .root cVrow true)]⟩,
    ⟨[(6, false, [.dat .bool])], [(268288, .box [.own 1000000300, .same 266240]), (1000000300, .root cVrow true)]⟩, none⟩)]
theorem e_spec_l9Row : fnDen ⟨tis, fns_218, [], false⟩ a_spec_l9Row Tryz.f313 (codeOf Tryz.f313) [.val true cVtab false, .val true cVrow false] [.val true cVtab true] = fun a => spec_l9Row a.1 a.2 := by kernel_rfl
theorem m_spec_l9Row : Meets Tryz.prog 313 F_spec_l9Row := by
  have h := meets_of (ann := a_spec_l9Row) (ps := [.val true cVtab false, .val true cVrow false]) (rs := [.val true cVtab true]) g_218 mixed Tryz.func313 (by kernel_rfl) (by kernel_rfl : Tryz.f313.body = some (codeOf Tryz.f313))
  rw [e_spec_l9Row] at h
  exact h
noncomputable def fns_313 : List (FuncId × Fn) := (313, F_spec_l9Row) :: fns_218
theorem g_313 : Good Tryz.prog ⟨tis, fns_313, [], false⟩ := g_218.cons m_spec_l9Row
noncomputable def spec_l18Status (b0 : Bridge) (id1 : Int) (n2 : Int) : Option (Bridge × Int) :=
  (spec_RowAt (b0.2.2.2.2.1, b0.2.2.2.2.2.1) id1).bind fun t12 =>
  (cond (n2 == 4) (some (decide (t12 < 0))) (some false)).bind fun t19 =>
  (cond t19 (some (decide ((b0.2.2.2.2.1.length : Int) < 6))) (some false)).bind fun t26 =>
  cond t26
    ((spec_l9Row (b0.2.2.2.2.1, b0.2.2.2.2.2.1) (id1, 0, 0)).bind fun t31 =>
    some ((b0.1, b0.2.1, b0.2.2.1, b0.2.2.2.1, t31.1, t31.2, b0.2.2.2.2.2.2.1, b0.2.2.2.2.2.2.2.1, b0.2.2.2.2.2.2.2.2.1, b0.2.2.2.2.2.2.2.2.2.1, b0.2.2.2.2.2.2.2.2.2.2), 0))
    ((cond (n2 == 6) (some (decide (t12 ≥ 0))) (some false)).bind fun t40 =>
    cond t40
      ((cutIx b0.2.2.2.2.1.length 0 t12).bind fun p =>
      (app ([] : List Vrow) ((b0.2.2.2.2.1.take p.2).drop p.1)).bind fun zs47 =>
      (cutIx b0.2.2.2.2.1.length (w64 (t12 + 1)) (b0.2.2.2.2.1.length : Int)).bind fun p_1 =>
      (app zs47 ((b0.2.2.2.2.1.take p_1.2).drop p_1.1)).bind fun zs54 =>
      some ((b0.1, b0.2.1, b0.2.2.1, b0.2.2.2.1, zs54, b0.2.2.2.2.2.1, b0.2.2.2.2.2.2.1, b0.2.2.2.2.2.2.2.1, b0.2.2.2.2.2.2.2.2.1, b0.2.2.2.2.2.2.2.2.2.1, b0.2.2.2.2.2.2.2.2.2.2), 0))
      (some (b0, 2)))
noncomputable def F_spec_l18Status : Fn := ⟨[.val true cBridge true, .val false (.one (.int .i64)) false, .val false (.one (.int .i64)) false], [.val true cBridge true, .val false (.one (.int .i64)) true], fun a => spec_l18Status a.1 a.2.1 a.2.2⟩
def a_spec_l18Status : List (Nat × LoopAnn) := []
theorem e_spec_l18Status : fnDen ⟨tis, fns_313, [], false⟩ a_spec_l18Status Tryz.f312 (codeOf Tryz.f312) [.val true cBridge true, .val false (.one (.int .i64)) false, .val false (.one (.int .i64)) false] [.val true cBridge true, .val false (.one (.int .i64)) true] = fun a => spec_l18Status a.1 a.2.1 a.2.2 := by kernel_rfl
theorem m_spec_l18Status : Meets Tryz.prog 312 F_spec_l18Status := by
  have h := meets_of (ann := a_spec_l18Status) (ps := [.val true cBridge true, .val false (.one (.int .i64)) false, .val false (.one (.int .i64)) false]) (rs := [.val true cBridge true, .val false (.one (.int .i64)) true]) g_313 mixed Tryz.func312 (by kernel_rfl) (by kernel_rfl : Tryz.f312.body = some (codeOf Tryz.f312))
  rw [e_spec_l18Status] at h
  exact h
noncomputable def fns_312 : List (FuncId × Fn) := (312, F_spec_l18Status) :: fns_313
theorem g_312 : Good Tryz.prog ⟨tis, fns_312, [], false⟩ := g_313.cons m_spec_l18Status
noncomputable def spec_l18Row (b0 : Bridge) (c1 : Int) (id2 : Int) (n3 : Int) : Option (Bridge × Int) :=
  cond (c1 == 1)
    ((spec_l18Status b0 id2 n3).bind fun t16 =>
    some t16)
    ((shl .i64 1 (IntKind.u64.wrap ((b0.2.2.1.length : Int)))).bind fun t24 =>
    (spec_l1In n3 0 (w64 (t24 - 1))).bind fun t26 =>
    cond (!t26)
      (some (b0, 2))
      ((spec_RowAt (b0.2.2.2.2.1, b0.2.2.2.2.2.1) id2).bind fun t35 =>
      (ix b0.2.2.2.2.1.length t35).bind fun j36 =>
      (b0.2.2.2.2.1[j36]?).bind fun x37 =>
      cond (c1 == 2)
        ((spec_l9Row (b0.2.2.2.2.1, b0.2.2.2.2.2.1) (x37.1, n3, x37.2.2)).bind fun t47 =>
        some ((b0.1, b0.2.1, b0.2.2.1, b0.2.2.2.1, t47.1, t47.2, b0.2.2.2.2.2.2.1, b0.2.2.2.2.2.2.2.1, b0.2.2.2.2.2.2.2.2.1, b0.2.2.2.2.2.2.2.2.2.1, b0.2.2.2.2.2.2.2.2.2.2), 0))
        ((spec_l9Row (b0.2.2.2.2.1, b0.2.2.2.2.2.1) (x37.1, x37.2.1, n3)).bind fun t47_1 =>
        some ((b0.1, b0.2.1, b0.2.2.1, b0.2.2.2.1, t47_1.1, t47_1.2, b0.2.2.2.2.2.2.1, b0.2.2.2.2.2.2.2.1, b0.2.2.2.2.2.2.2.2.1, b0.2.2.2.2.2.2.2.2.2.1, b0.2.2.2.2.2.2.2.2.2.2), 0))))
noncomputable def F_spec_l18Row : Fn := ⟨[.val true cBridge true, .val false (.one (.int .i64)) false, .val false (.one (.int .i64)) false, .val false (.one (.int .i64)) false], [.val true cBridge true, .val false (.one (.int .i64)) true], fun a => spec_l18Row a.1 a.2.1 a.2.2.1 a.2.2.2⟩
def a_spec_l18Row : List (Nat × LoopAnn) := []
theorem e_spec_l18Row : fnDen ⟨tis, fns_312, [], false⟩ a_spec_l18Row Tryz.f219 (codeOf Tryz.f219) [.val true cBridge true, .val false (.one (.int .i64)) false, .val false (.one (.int .i64)) false, .val false (.one (.int .i64)) false] [.val true cBridge true, .val false (.one (.int .i64)) true] = fun a => spec_l18Row a.1 a.2.1 a.2.2.1 a.2.2.2 := by kernel_rfl
theorem m_spec_l18Row : Meets Tryz.prog 219 F_spec_l18Row := by
  have h := meets_of (ann := a_spec_l18Row) (ps := [.val true cBridge true, .val false (.one (.int .i64)) false, .val false (.one (.int .i64)) false, .val false (.one (.int .i64)) false]) (rs := [.val true cBridge true, .val false (.one (.int .i64)) true]) g_312 mixed Tryz.func219 (by kernel_rfl) (by kernel_rfl : Tryz.f219.body = some (codeOf Tryz.f219))
  rw [e_spec_l18Row] at h
  exact h
noncomputable def fns_219 : List (FuncId × Fn) := (219, F_spec_l18Row) :: fns_312
theorem g_219 : Good Tryz.prog ⟨tis, fns_219, [], false⟩ := g_312.cons m_spec_l18Row
noncomputable def spec_l18One (p0 : Bridge) (i1 : Bind) : Option (Bridge × Int) :=
  (spec_l11Copy p0).bind fun t9 =>
  (spec_l18May p0 i1.1).bind fun t13 =>
  cond (!t13)
    ((spec_l18Seen p0 i1.1).bind fun t18 =>
    cond t18 (some (t9, 4)) (some (t9, 3)))
    ((cut i1.1 3 (i1.1.length : Int)).bind fun t23 =>
    (at? t23 0).bind fun x25 =>
    cond (x25 == 1)
      (cond (i1.2.1 != 4)
        (some (t9, 1))
        (let t34 := decide ((i1.2.2.2.1.length : Int) > 10)
        cond t34
          (some (t9, 2))
          (some ((t9.1, i1.2.2.2.1, t9.2.2.1, t9.2.2.2.1, t9.2.2.2.2.1, t9.2.2.2.2.2.1, t9.2.2.2.2.2.2.1, t9.2.2.2.2.2.2.2.1, t9.2.2.2.2.2.2.2.2.1, t9.2.2.2.2.2.2.2.2.2.1, t9.2.2.2.2.2.2.2.2.2.2), 0))))
      (cond (i1.2.1 != 2)
        (some (t9, 1))
        ((at? t23 0).bind fun x52 =>
        cond (x52 == 2)
          ((at? t23 1).bind fun x57 =>
          (at? t23 2).bind fun x60 =>
          (spec_l18Port t9 x57 (w64 (x60 - 1)) i1.2.2.1).bind fun t66 =>
          some t66)
          ((at? t23 1).bind fun x71 =>
          (at? t23 2).bind fun x74 =>
          (spec_l18Row t9 x71 x74 i1.2.2.1).bind fun t79 =>
          some t79))))
noncomputable def F_spec_l18One : Fn := ⟨[.val true cBridge false, .val true cBind false], [.val true cBridge true, .val false (.one (.int .i64)) true], fun a => spec_l18One a.1 a.2⟩
def a_spec_l18One : List (Nat × LoopAnn) := []
theorem e_spec_l18One : fnDen ⟨tis, fns_219, [], false⟩ a_spec_l18One Tryz.f96 (codeOf Tryz.f96) [.val true cBridge false, .val true cBind false] [.val true cBridge true, .val false (.one (.int .i64)) true] = fun a => spec_l18One a.1 a.2 := by kernel_rfl
theorem m_spec_l18One : Meets Tryz.prog 96 F_spec_l18One := by
  have h := meets_of (ann := a_spec_l18One) (ps := [.val true cBridge false, .val true cBind false]) (rs := [.val true cBridge true, .val false (.one (.int .i64)) true]) g_219 mixed Tryz.func96 (by kernel_rfl) (by kernel_rfl : Tryz.f96.body = some (codeOf Tryz.f96))
  rw [e_spec_l18One] at h
  exact h
noncomputable def fns_96 : List (FuncId × Fn) := (96, F_spec_l18One) :: fns_219
theorem g_96 : Good Tryz.prog ⟨tis, fns_96, [], false⟩ := g_219.cons m_spec_l18One
noncomputable def spec_l11One (n0 : Int) : Option Int :=
  cond (decide (n0 ≥ 1000000)) (some n0) (some (w64 (n0 + 1)))
noncomputable def F_spec_l11One : Fn := ⟨[.val false (.one (.int .i64)) false], [.val false (.one (.int .i64)) true], fun a => spec_l11One a⟩
def a_spec_l11One : List (Nat × LoopAnn) := []
theorem e_spec_l11One : fnDen ⟨tis, fns_96, [], false⟩ a_spec_l11One Tryz.f156 (codeOf Tryz.f156) [.val false (.one (.int .i64)) false] [.val false (.one (.int .i64)) true] = fun a => spec_l11One a := by kernel_rfl
theorem m_spec_l11One : Meets Tryz.prog 156 F_spec_l11One := by
  have h := meets_of (ann := a_spec_l11One) (ps := [.val false (.one (.int .i64)) false]) (rs := [.val false (.one (.int .i64)) true]) g_96 mixed Tryz.func156 (by kernel_rfl) (by kernel_rfl : Tryz.f156.body = some (codeOf Tryz.f156))
  rw [e_spec_l11One] at h
  exact h
noncomputable def fns_156 : List (FuncId × Fn) := (156, F_spec_l11One) :: fns_96
theorem g_156 : Good Tryz.prog ⟨tis, fns_156, [], false⟩ := g_96.cons m_spec_l11One
noncomputable def spec_LessVec (a0 : Vec) (b1 : Vec) : Option Bool :=
  cond (a0.1 != b1.1)
    (some (decide (a0.1 < b1.1)))
    (cond (a0.2.1 != b1.2.1)
      (some (decide (a0.2.1 < b1.2.1)))
      (cond (a0.2.2.2.1 != b1.2.2.2.1)
        (let t4 := decide (a0.2.2.2.1 < b1.2.2.2.1)
        some t4)
        (let t4_1 := decide (a0.2.2.2.2 < b1.2.2.2.2)
        some t4_1)))
noncomputable def F_spec_LessVec : Fn := ⟨[.val true cVec false, .val true cVec false], [.val false (.one .bool) true], fun a => spec_LessVec a.1 a.2⟩
def a_spec_LessVec : List (Nat × LoopAnn) := []
theorem e_spec_LessVec : fnDen ⟨tis, fns_156, [], false⟩ a_spec_LessVec Tryz.f292 (codeOf Tryz.f292) [.val true cVec false, .val true cVec false] [.val false (.one .bool) true] = fun a => spec_LessVec a.1 a.2 := by kernel_rfl
theorem m_spec_LessVec : Meets Tryz.prog 292 F_spec_LessVec := by
  have h := meets_of (ann := a_spec_LessVec) (ps := [.val true cVec false, .val true cVec false]) (rs := [.val false (.one .bool) true]) g_156 mixed Tryz.func292 (by kernel_rfl) (by kernel_rfl : Tryz.f292.body = some (codeOf Tryz.f292))
  rw [e_spec_LessVec] at h
  exact h
noncomputable def fns_292 : List (FuncId × Fn) := (292, F_spec_LessVec) :: fns_156
theorem g_292 : Good Tryz.prog ⟨tis, fns_292, [], false⟩ := g_156.cons m_spec_LessVec
noncomputable def spec_StepVec (v0 : Vec) (cost1 : Int) : Option (Vec × Bool) :=
  (spec_VecOk v0).bind fun t8 =>
  (cond (!t8)
    (some true)
    ((spec_l1In cost1 1 1000).bind fun t12 =>
    some (!t12))).bind fun t14 =>
  cond t14
    (some (v0, false))
    ((spec_VecOk (v0.1, w64 (v0.2.1 + cost1), w64 (v0.2.2.1 + 1), v0.2.2.2.1, v0.2.2.2.2)).bind fun t27 =>
    cond (!t27)
      (some (v0, false))
      (some ((v0.1, w64 (v0.2.1 + cost1), w64 (v0.2.2.1 + 1), v0.2.2.2.1, v0.2.2.2.2), true)))
noncomputable def F_spec_StepVec : Fn := ⟨[.val true cVec false, .val false (.one (.int .i64)) false], [.val true cVec true, .val false (.one .bool) true], fun a => spec_StepVec a.1 a.2⟩
def a_spec_StepVec : List (Nat × LoopAnn) := []
theorem e_spec_StepVec : fnDen ⟨tis, fns_292, [], false⟩ a_spec_StepVec Tryz.f350 (codeOf Tryz.f350) [.val true cVec false, .val false (.one (.int .i64)) false] [.val true cVec true, .val false (.one .bool) true] = fun a => spec_StepVec a.1 a.2 := by kernel_rfl
theorem m_spec_StepVec : Meets Tryz.prog 350 F_spec_StepVec := by
  have h := meets_of (ann := a_spec_StepVec) (ps := [.val true cVec false, .val false (.one (.int .i64)) false]) (rs := [.val true cVec true, .val false (.one .bool) true]) g_292 mixed Tryz.func350 (by kernel_rfl) (by kernel_rfl : Tryz.f350.body = some (codeOf Tryz.f350))
  rw [e_spec_StepVec] at h
  exact h
noncomputable def fns_350 : List (FuncId × Fn) := (350, F_spec_StepVec) :: fns_292
theorem g_350 : Good Tryz.prog ⟨tis, fns_350, [], false⟩ := g_292.cons m_spec_StepVec
noncomputable def spec_BestVec_l0 (p0 : Int) (i1 : List Pt) (t8 : Int) (t9 : Int) (b0 : Int) (b1 : Int) (b2 : Int) (b3 : Int) (b4 : Int) (b0_1 : Int) (b1_1 : Int) (b2_1 : Int) (b3_1 : Int) (b4_1 : Int) : Option ((Int × Int × Int × Int × Int × Int × Int × Int × Int × Int × Int × Int) ⊕ (Int × Int × Int × Int × Int × Int × Int × Int × Int × Int × Int)) :=
  cond (decide (t9 < (i1.length : Int)))
    ((at? i1 t9).bind fun x24 =>
    (cond (!x24.1)
      (some true)
      ((at? i1 t9).bind fun x31 =>
      some (!x31.2.2.1))).bind fun t35 =>
    cond t35
      (some (.inl (t8, w64 (t9 + 1), b0, b1, b2, b3, b4, b0_1, b1_1, b2_1, b3_1, b4_1)))
      ((at? i1 t9).bind fun x39 =>
      (at? i1 t9).bind fun x44 =>
      (spec_StepVec x39.2.2.2 x44.2.1).bind fun t47 =>
      (cond t47.2 (some (decide (t47.1.1 < p0))) (some false)).bind fun t56 =>
      (cond t56
        ((cond (decide (t8 < 0))
          (some true)
          ((spec_LessVec t47.1 (b0_1, b1_1, b2_1, b3_1, b4_1)).bind fun t63 =>
          some t63)).bind fun t64 =>
        some t64)
        (some false)).bind fun t65 =>
      cond t65
        (some (.inl (t9, w64 (t9 + 1), t47.1.1, t47.1.2.1, t47.1.2.2.1, p0, 0, t47.1.1, t47.1.2.1, t47.1.2.2.1, t47.1.2.2.2.1, t47.1.2.2.2.2)))
        (some (.inl (t8, w64 (t9 + 1), b0, b1, b2, b3, b4, b0_1, b1_1, b2_1, b3_1, b4_1)))))
    (some (.inr (t8, b0, b1, b2, b3, b4, b0_1, b1_1, b2_1, b3_1, b4_1)))
noncomputable def spec_BestVec (p0 : Int) (i1 : List Pt) : Option (Vec × Int) :=
  (loop (fun z => spec_BestVec_l0 p0 i1 z.1 z.2.1 z.2.2.1 z.2.2.2.1 z.2.2.2.2.1 z.2.2.2.2.2.1 z.2.2.2.2.2.2.1 z.2.2.2.2.2.2.2.1 z.2.2.2.2.2.2.2.2.1 z.2.2.2.2.2.2.2.2.2.1 z.2.2.2.2.2.2.2.2.2.2.1 z.2.2.2.2.2.2.2.2.2.2.2) ((-1), 0, p0, 0, 0, p0, 0, 0, 0, 0, 0, 0)).bind fun d =>
  some ((d.2.1, d.2.2.1, d.2.2.2.1, d.2.2.2.2.1, d.2.2.2.2.2.1), d.1)
noncomputable def F_spec_BestVec : Fn := ⟨[.val false (.one (.int .i64)) false, .val false (.one (.sl cPt)) false], [.val true cVec true, .val false (.one (.int .i64)) true], fun a => spec_BestVec a.1 a.2⟩
def a_spec_BestVec : List (Nat × LoopAnn) := [(0, ⟨⟨[(8, false, [.dat (.int .i64)]), (9, false, [.dat (.int .i64)]), (29, false, [.undef]), (30, false, [.undef]), (31, false, [.undef]), (32, false, [.undef]), (33, false, [.undef]), (34, false, [.undef]), (52, false, [.undef]), (53, false, [.undef]), (54, false, [.undef]), (55, false, [.undef]), (58, false, [.undef]), (59, false, [.undef]), (60, false, [.undef]), (61, false, [.undef]), (62, false, [.undef]), (63, false, [.undef]), (64, false, [.undef])], [(266240, .box [.dat (.int .i64), .dat (.int .i64), .dat (.int .i64), .dat (.int .i64), .dat (.int .i64)]), (526336, .box [.dat (.int .i64), .dat (.int .i64), .dat (.int .i64), .dat (.int .i64), .dat (.int .i64)])]⟩,
    ⟨[(8, false, [.dat (.int .i64)])], [(266240, .box [.dat (.int .i64), .dat (.int .i64), .dat (.int .i64), .dat (.int .i64), .dat (.int .i64)]), (526336, .box [.dat (.int .i64), .dat (.int .i64), .dat (.int .i64), .dat (.int .i64), .dat (.int .i64)])]⟩, none⟩)]
theorem e_spec_BestVec : fnDen ⟨tis, fns_350, [], false⟩ a_spec_BestVec Tryz.f288 (codeOf Tryz.f288) [.val false (.one (.int .i64)) false, .val false (.one (.sl cPt)) false] [.val true cVec true, .val false (.one (.int .i64)) true] = fun a => spec_BestVec a.1 a.2 := by kernel_rfl
theorem m_spec_BestVec : Meets Tryz.prog 288 F_spec_BestVec := by
  have h := meets_of (ann := a_spec_BestVec) (ps := [.val false (.one (.int .i64)) false, .val false (.one (.sl cPt)) false]) (rs := [.val true cVec true, .val false (.one (.int .i64)) true]) g_350 mixed Tryz.func288 (by kernel_rfl) (by kernel_rfl : Tryz.f288.body = some (codeOf Tryz.f288))
  rw [e_spec_BestVec] at h
  exact h
noncomputable def fns_288 : List (FuncId × Fn) := (288, F_spec_BestVec) :: fns_350
theorem g_288 : Good Tryz.prog ⟨tis, fns_288, [], false⟩ := g_350.cons m_spec_BestVec
noncomputable def spec_SayVec (id0 : Int) (l1 : List Pt) (port2 : Int) : Option Vec :=
  (spec_BestVec id0 l1).bind fun t12 =>
  some (t12.1.1, t12.1.2.1, t12.1.2.2.1, t12.1.2.2.2.1, port2)
noncomputable def F_spec_SayVec : Fn := ⟨[.val false (.one (.int .i64)) false, .val false (.one (.sl cPt)) false, .val false (.one (.int .i64)) false], [.val true cVec true], fun a => spec_SayVec a.1 a.2.1 a.2.2⟩
def a_spec_SayVec : List (Nat × LoopAnn) := []
theorem e_spec_SayVec : fnDen ⟨tis, fns_288, [], false⟩ a_spec_SayVec Tryz.f293 (codeOf Tryz.f293) [.val false (.one (.int .i64)) false, .val false (.one (.sl cPt)) false, .val false (.one (.int .i64)) false] [.val true cVec true] = fun a => spec_SayVec a.1 a.2.1 a.2.2 := by kernel_rfl
theorem m_spec_SayVec : Meets Tryz.prog 293 F_spec_SayVec := by
  have h := meets_of (ann := a_spec_SayVec) (ps := [.val false (.one (.int .i64)) false, .val false (.one (.sl cPt)) false, .val false (.one (.int .i64)) false]) (rs := [.val true cVec true]) g_288 mixed Tryz.func293 (by kernel_rfl) (by kernel_rfl : Tryz.f293.body = some (codeOf Tryz.f293))
  rw [e_spec_SayVec] at h
  exact h
noncomputable def fns_293 : List (FuncId × Fn) := (293, F_spec_SayVec) :: fns_288
theorem g_293 : Good Tryz.prog ⟨tis, fns_293, [], false⟩ := g_288.cons m_spec_SayVec
noncomputable def spec_RoleOf (id0 : Int) (l1 : List Pt) (port2 : Int) : Option Int :=
  (spec_l1In port2 0 (w64 ((l1.length : Int) - 1))).bind fun t13 =>
  (cond (!t13)
    (some true)
    ((at? l1 port2).bind fun x18 =>
    some (!x18.1))).bind fun t22 =>
  cond t22
    (some 4)
    ((spec_BestVec id0 l1).bind fun t26 =>
    cond (t26.2 == port2)
      (some 1)
      ((at? l1 port2).bind fun x36 =>
      (cond (!x36.2.2.1)
        (some true)
        ((spec_SayVec id0 l1 port2).bind fun t44 =>
        (at? l1 port2).bind fun x47 =>
        (spec_LessVec t44 x47.2.2.2).bind fun t50 =>
        some t50)).bind fun t51 =>
      cond t51 (some 2) (some 3)))
noncomputable def F_spec_RoleOf : Fn := ⟨[.val false (.one (.int .i64)) false, .val false (.one (.sl cPt)) false, .val false (.one (.int .i64)) false], [.val false (.one (.int .i64)) true], fun a => spec_RoleOf a.1 a.2.1 a.2.2⟩
def a_spec_RoleOf : List (Nat × LoopAnn) := []
theorem e_spec_RoleOf : fnDen ⟨tis, fns_293, [], false⟩ a_spec_RoleOf Tryz.f180 (codeOf Tryz.f180) [.val false (.one (.int .i64)) false, .val false (.one (.sl cPt)) false, .val false (.one (.int .i64)) false] [.val false (.one (.int .i64)) true] = fun a => spec_RoleOf a.1 a.2.1 a.2.2 := by kernel_rfl
theorem m_spec_RoleOf : Meets Tryz.prog 180 F_spec_RoleOf := by
  have h := meets_of (ann := a_spec_RoleOf) (ps := [.val false (.one (.int .i64)) false, .val false (.one (.sl cPt)) false, .val false (.one (.int .i64)) false]) (rs := [.val false (.one (.int .i64)) true]) g_293 mixed Tryz.func180 (by kernel_rfl) (by kernel_rfl : Tryz.f180.body = some (codeOf Tryz.f180))
  rw [e_spec_RoleOf] at h
  exact h
noncomputable def fns_180 : List (FuncId × Fn) := (180, F_spec_RoleOf) :: fns_293
theorem g_180 : Good Tryz.prog ⟨tis, fns_180, [], false⟩ := g_293.cons m_spec_RoleOf
noncomputable def spec_Sends_l0 (id0 : Int) (l1 : List Pt) (n5 : Int) (i6 : Int) : Option ((Int × Int) ⊕ Int) :=
  (cond (decide (i6 < (l1.length : Int))) (some (decide (i6 < 6))) (some false)).bind fun t14 =>
  cond t14
    ((spec_RoleOf id0 l1 i6).bind fun t20 =>
    cond (decide (t20 ≤ 2))
      ((shl .i64 1 (IntKind.u64.wrap (i6))).bind fun t25 =>
      some (.inl (bor .i64 n5 t25, w64 (i6 + 1))))
      (some (.inl (n5, w64 (i6 + 1)))))
    (some (.inr n5))
noncomputable def spec_Sends (id0 : Int) (l1 : List Pt) : Option Int :=
  (loop (fun z => spec_Sends_l0 id0 l1 z.1 z.2) (0, 0)).bind fun d =>
  some d
noncomputable def F_spec_Sends : Fn := ⟨[.val false (.one (.int .i64)) false, .val false (.one (.sl cPt)) false], [.val false (.one (.int .i64)) true], fun a => spec_Sends a.1 a.2⟩
def a_spec_Sends : List (Nat × LoopAnn) := [(0, ⟨⟨[(5, false, [.dat (.int .i64)]), (6, false, [.dat (.int .i64)]), (12, false, [.undef]), (13, false, [.undef])], []⟩,
    ⟨[(5, false, [.dat (.int .i64)])], []⟩, none⟩)]
theorem e_spec_Sends : fnDen ⟨tis, fns_180, [], false⟩ a_spec_Sends Tryz.f221 (codeOf Tryz.f221) [.val false (.one (.int .i64)) false, .val false (.one (.sl cPt)) false] [.val false (.one (.int .i64)) true] = fun a => spec_Sends a.1 a.2 := by kernel_rfl
theorem m_spec_Sends : Meets Tryz.prog 221 F_spec_Sends := by
  have h := meets_of (ann := a_spec_Sends) (ps := [.val false (.one (.int .i64)) false, .val false (.one (.sl cPt)) false]) (rs := [.val false (.one (.int .i64)) true]) g_180 mixed Tryz.func221 (by kernel_rfl) (by kernel_rfl : Tryz.f221.body = some (codeOf Tryz.f221))
  rw [e_spec_Sends] at h
  exact h
noncomputable def fns_221 : List (FuncId × Fn) := (221, F_spec_Sends) :: fns_180
theorem g_221 : Good Tryz.prog ⟨tis, fns_221, [], false⟩ := g_180.cons m_spec_Sends
noncomputable def spec_l9Bit (n0 : Int) (port1 : Int) : Option Bool :=
  (spec_l1In port1 0 7).bind fun t6 =>
  (cond t6
    ((shr .i64 n0 (IntKind.u64.wrap (port1))).bind fun t11 =>
    some ((band .i64 t11 1) == 1))
    (some false)).bind fun t14 =>
  some t14
noncomputable def F_spec_l9Bit : Fn := ⟨[.val false (.one (.int .i64)) false, .val false (.one (.int .i64)) false], [.val false (.one .bool) true], fun a => spec_l9Bit a.1 a.2⟩
def a_spec_l9Bit : List (Nat × LoopAnn) := []
theorem e_spec_l9Bit : fnDen ⟨tis, fns_221, [], false⟩ a_spec_l9Bit Tryz.f222 (codeOf Tryz.f222) [.val false (.one (.int .i64)) false, .val false (.one (.int .i64)) false] [.val false (.one .bool) true] = fun a => spec_l9Bit a.1 a.2 := by kernel_rfl
theorem m_spec_l9Bit : Meets Tryz.prog 222 F_spec_l9Bit := by
  have h := meets_of (ann := a_spec_l9Bit) (ps := [.val false (.one (.int .i64)) false, .val false (.one (.int .i64)) false]) (rs := [.val false (.one .bool) true]) g_221 mixed Tryz.func222 (by kernel_rfl) (by kernel_rfl : Tryz.f222.body = some (codeOf Tryz.f222))
  rw [e_spec_l9Bit] at h
  exact h
noncomputable def fns_222 : List (FuncId × Fn) := (222, F_spec_l9Bit) :: fns_221
theorem g_222 : Good Tryz.prog ⟨tis, fns_222, [], false⟩ := g_221.cons m_spec_l9Bit
noncomputable def spec_FlushPort_l0 (l0 : List Fent) (port1 : Int) (i6 : Int) (out5 : List Fent) : Option ((Int × List Fent) ⊕ (List Fent)) :=
  cond (decide (i6 < (l0.length : Int)))
    ((at? l0 i6).bind fun x16 =>
    (cond x16.2.2.2.2
      (some true)
      ((at? l0 i6).bind fun x22 =>
      some (x22.2.2.1 != port1))).bind fun t27 =>
    cond t27
      ((at? l0 i6).bind fun x31 =>
      (app out5 [x31]).bind fun zs34 =>
      some (.inl (w64 (i6 + 1), zs34)))
      (some (.inl (w64 (i6 + 1), out5))))
    (some (.inr out5))
noncomputable def spec_FlushPort (l0 : List Fent) (port1 : Int) : Option (List Fent) :=
  (loop (fun z => spec_FlushPort_l0 l0 port1 z.1 z.2) (0, ([] : List Fent))).bind fun d =>
  some d
noncomputable def F_spec_FlushPort : Fn := ⟨[.val false (.one (.sl cFent)) false, .val false (.one (.int .i64)) false], [.val false (.one (.sl cFent)) true], fun a => spec_FlushPort a.1 a.2⟩
def a_spec_FlushPort : List (Nat × LoopAnn) := [(0, ⟨⟨[(5, false, [.own 1000000000]), (6, false, [.dat (.int .i64)]), (20, false, [.undef]), (21, false, [.undef]), (22, false, [.undef]), (23, false, [.undef]), (24, false, [.undef]), (25, false, [.undef]), (26, false, [.undef])], [(1000000000, .root cFent true)]⟩,
    ⟨[(5, false, [.own 1000000300])], [(1000000300, .root cFent true)]⟩, none⟩)]
theorem e_spec_FlushPort : fnDen ⟨tis, fns_222, [], false⟩ a_spec_FlushPort Tryz.f223 (codeOf Tryz.f223) [.val false (.one (.sl cFent)) false, .val false (.one (.int .i64)) false] [.val false (.one (.sl cFent)) true] = fun a => spec_FlushPort a.1 a.2 := by kernel_rfl
theorem m_spec_FlushPort : Meets Tryz.prog 223 F_spec_FlushPort := by
  have h := meets_of (ann := a_spec_FlushPort) (ps := [.val false (.one (.sl cFent)) false, .val false (.one (.int .i64)) false]) (rs := [.val false (.one (.sl cFent)) true]) g_222 mixed Tryz.func223 (by kernel_rfl) (by kernel_rfl : Tryz.f223.body = some (codeOf Tryz.f223))
  rw [e_spec_FlushPort] at h
  exact h
noncomputable def fns_223 : List (FuncId × Fn) := (223, F_spec_FlushPort) :: fns_222
theorem g_223 : Good Tryz.prog ⟨tis, fns_223, [], false⟩ := g_222.cons m_spec_FlushPort
noncomputable def spec_l11Turned_l0 (b0 : Bridge) (t13 : Int) (i4 : Int) (b0_1 : Int) (b1 : List UInt8) (b6 : Int) (b7 : Int) (b8 : Int) (b9 : Int) (b10 : Int) (b3 : List Fent) : Option ((Int × Int × List UInt8 × Int × Int × Int × Int × Int × List Fent) ⊕ (Int × List UInt8 × Int × Int × Int × Int × Int × List Fent)) :=
  cond (decide (i4 < (b0.2.2.1.length : Int)))
    ((spec_l9Bit t13 i4).bind fun t23 =>
    cond (!t23)
      ((spec_FlushPort b3 i4).bind fun t28 =>
      some (.inl (w64 (i4 + 1), b0_1, b1, b6, b7, b8, b9, b10, t28)))
      (some (.inl (w64 (i4 + 1), b0_1, b1, b6, b7, b8, b9, b10, b3))))
    (some (.inr (b0_1, b1, b6, b7, b8, b9, b10, b3)))
noncomputable def spec_l11Turned (b0 : Bridge) : Option Bridge :=
  (spec_l11One b0.2.2.2.2.2.2.2.2.2.2).bind fun t7 =>
  (spec_Sends b0.1 b0.2.2.1).bind fun t13 =>
  (loop (fun z => spec_l11Turned_l0 b0 t13 z.1 z.2.1 z.2.2.1 z.2.2.2.1 z.2.2.2.2.1 z.2.2.2.2.2.1 z.2.2.2.2.2.2.1 z.2.2.2.2.2.2.2.1 z.2.2.2.2.2.2.2.2) (0, b0.1, b0.2.1, b0.2.2.2.2.2.2.1, b0.2.2.2.2.2.2.2.1, b0.2.2.2.2.2.2.2.2.1, b0.2.2.2.2.2.2.2.2.2.1, t7, b0.2.2.2.1)).bind fun d =>
  some (d.1, d.2.1, b0.2.2.1, d.2.2.2.2.2.2.2, b0.2.2.2.2.1, b0.2.2.2.2.2.1, d.2.2.1, d.2.2.2.1, d.2.2.2.2.1, d.2.2.2.2.2.1, d.2.2.2.2.2.2.1)
noncomputable def F_spec_l11Turned : Fn := ⟨[.val true cBridge true], [.val true cBridge true], fun a => spec_l11Turned a⟩
def a_spec_l11Turned : List (Nat × LoopAnn) := [(0, ⟨⟨[(4, false, [.dat (.int .i64)])], [(1024, .box [.dat (.int .i64), .dat .str, .same 3, .own 1000000000, .same 5, .same 6, .dat (.int .i64), .dat (.int .i64), .dat (.int .i64), .dat (.int .i64), .dat (.int .i64)]), (1000000000, .root cFent true)]⟩,
    ⟨[], [(1024, .box [.dat (.int .i64), .dat .str, .same 3, .own 1000000300, .same 5, .same 6, .dat (.int .i64), .dat (.int .i64), .dat (.int .i64), .dat (.int .i64), .dat (.int .i64)]), (1000000300, .root cFent true)]⟩, none⟩)]
theorem e_spec_l11Turned : fnDen ⟨tis, fns_223, [], false⟩ a_spec_l11Turned Tryz.f98 (codeOf Tryz.f98) [.val true cBridge true] [.val true cBridge true] = fun a => spec_l11Turned a := by kernel_rfl
theorem m_spec_l11Turned : Meets Tryz.prog 98 F_spec_l11Turned := by
  have h := meets_of (ann := a_spec_l11Turned) (ps := [.val true cBridge true]) (rs := [.val true cBridge true]) g_223 mixed Tryz.func98 (by kernel_rfl) (by kernel_rfl : Tryz.f98.body = some (codeOf Tryz.f98))
  rw [e_spec_l11Turned] at h
  exact h
noncomputable def fns_98 : List (FuncId × Fn) := (98, F_spec_l11Turned) :: fns_223
theorem g_98 : Good Tryz.prog ⟨tis, fns_98, [], false⟩ := g_223.cons m_spec_l11Turned
noncomputable def spec_SetAll_l2 (p0 : Bridge) (i1 : List Bind) (t8 : Int) (t9 : Int) (b0_2 : Int) (b1_2 : List UInt8) (b6_2 : Int) (b7_2 : Int) (b8_2 : Int) (b9_2 : Int) (b10_2 : Int) : Option ((Int × Int × List UInt8 × Int × Int × Int × Int × Int) ⊕ ((Int × List UInt8 × Int × Int × Int × Int × Int) ⊕ (Int × Int × Int × List UInt8 × Int × Int × Int × Int × Int × List Pt × List Fent × List Vrow × List Int))) :=
  cond (decide (t9 < t8))
    ((at? i1 t9).bind fun x36 =>
    (at? i1 t8).bind fun x41 =>
    (spec_SameOid x36.1 x41.1).bind fun t44 =>
    cond t44
      ((spec_l11Copy p0).bind fun t46 =>
      some (.inr (.inr (5, w64 (t8 + 1), t46.1, t46.2.1, t46.2.2.2.2.2.2.1, t46.2.2.2.2.2.2.2.1, t46.2.2.2.2.2.2.2.2.1, t46.2.2.2.2.2.2.2.2.2.1, t46.2.2.2.2.2.2.2.2.2.2, t46.2.2.1, t46.2.2.2.1, t46.2.2.2.2.1, t46.2.2.2.2.2.1))))
      (some (.inl (w64 (t9 + 1), b0_2, b1_2, b6_2, b7_2, b8_2, b9_2, b10_2))))
    (some (.inr (.inl (b0_2, b1_2, b6_2, b7_2, b8_2, b9_2, b10_2))))
noncomputable def spec_SetAll_l0 (p0 : Bridge) (i1 : List Bind) (t8 : Int) (b0 : Int) (b1 : List UInt8) (b6 : Int) (b7 : Int) (b8 : Int) (b9 : Int) (b10 : Int) (b0_1 : Int) (b1_1 : List UInt8) (b6_1 : Int) (b7_1 : Int) (b8_1 : Int) (b9_1 : Int) (b10_1 : Int) (b2 : List Pt) (b3 : List Fent) (b4 : List Vrow) (b5 : List Int) (b2_1 : List Pt) (b3_1 : List Fent) (b4_1 : List Vrow) (b5_1 : List Int) : Option ((Int × Int × List UInt8 × Int × Int × Int × Int × Int × Int × List UInt8 × Int × Int × Int × Int × Int × List Pt × List Fent × List Vrow × List Int × List Pt × List Fent × List Vrow × List Int) ⊕ ((Int × List UInt8 × Int × Int × Int × Int × Int × Int × List UInt8 × Int × Int × Int × Int × Int × List Pt × List Fent × List Vrow × List Int × List Pt × List Fent × List Vrow × List Int) ⊕ (Int × Int × Int × List UInt8 × Int × Int × Int × Int × Int × List Pt × List Fent × List Vrow × List Int))) :=
  cond (decide (t8 < (i1.length : Int)))
    ((loop (fun z => spec_SetAll_l2 p0 i1 t8 z.1 z.2.1 z.2.2.1 z.2.2.2.1 z.2.2.2.2.1 z.2.2.2.2.2.1 z.2.2.2.2.2.2.1 z.2.2.2.2.2.2.2) (0, b0, b1, b6, b7, b8, b9, b10)).bind (Sum.elim (fun d =>
      (at? i1 t8).bind fun x53 =>
      (spec_l18One (b0_1, b1_1, b2_1, b3_1, b4_1, b5_1, b6_1, b7_1, b8_1, b9_1, b10_1) x53).bind fun t55 =>
      cond (t55.2 != 0)
        ((spec_l11Copy p0).bind fun t61 =>
        some (.inr (.inr (t55.2, w64 (t8 + 1), t61.1, t61.2.1, t61.2.2.2.2.2.2.1, t61.2.2.2.2.2.2.2.1, t61.2.2.2.2.2.2.2.2.1, t61.2.2.2.2.2.2.2.2.2.1, t61.2.2.2.2.2.2.2.2.2.2, t61.2.2.1, t61.2.2.2.1, t61.2.2.2.2.1, t61.2.2.2.2.2.1))))
        (some (.inl (w64 (t8 + 1), d.1, d.2.1, d.2.2.1, d.2.2.2.1, d.2.2.2.2.1, d.2.2.2.2.2.1, d.2.2.2.2.2.2, t55.1.1, t55.1.2.1, t55.1.2.2.2.2.2.2.1, t55.1.2.2.2.2.2.2.2.1, t55.1.2.2.2.2.2.2.2.2.1, t55.1.2.2.2.2.2.2.2.2.2.1, t55.1.2.2.2.2.2.2.2.2.2.2, b2, b3, b4, b5, t55.1.2.2.1, t55.1.2.2.2.1, t55.1.2.2.2.2.1, t55.1.2.2.2.2.2.1)))) (fun r => some (.inr (.inr r)))))
    (some (.inr (.inl (b0, b1, b6, b7, b8, b9, b10, b0_1, b1_1, b6_1, b7_1, b8_1, b9_1, b10_1, b2, b3, b4, b5, b2_1, b3_1, b4_1, b5_1))))
noncomputable def spec_SetAll (p0 : Bridge) (i1 : List Bind) : Option (Bridge × Int × Int) :=
  (spec_l11Copy p0).bind fun t13 =>
  (spec_BridgeOk p0).bind fun t15 =>
  (cond (!t15) (some (decide ((i1.length : Int) > 0))) (some false)).bind fun t21 =>
  cond t21
    (some (t13, 3, 1))
    ((loop (fun z => spec_SetAll_l0 p0 i1 z.1 z.2.1 z.2.2.1 z.2.2.2.1 z.2.2.2.2.1 z.2.2.2.2.2.1 z.2.2.2.2.2.2.1 z.2.2.2.2.2.2.2.1 z.2.2.2.2.2.2.2.2.1 z.2.2.2.2.2.2.2.2.2.1 z.2.2.2.2.2.2.2.2.2.2.1 z.2.2.2.2.2.2.2.2.2.2.2.1 z.2.2.2.2.2.2.2.2.2.2.2.2.1 z.2.2.2.2.2.2.2.2.2.2.2.2.2.1 z.2.2.2.2.2.2.2.2.2.2.2.2.2.2.1 z.2.2.2.2.2.2.2.2.2.2.2.2.2.2.2.1 z.2.2.2.2.2.2.2.2.2.2.2.2.2.2.2.2.1 z.2.2.2.2.2.2.2.2.2.2.2.2.2.2.2.2.2.1 z.2.2.2.2.2.2.2.2.2.2.2.2.2.2.2.2.2.2.1 z.2.2.2.2.2.2.2.2.2.2.2.2.2.2.2.2.2.2.2.1 z.2.2.2.2.2.2.2.2.2.2.2.2.2.2.2.2.2.2.2.2.1 z.2.2.2.2.2.2.2.2.2.2.2.2.2.2.2.2.2.2.2.2.2.1 z.2.2.2.2.2.2.2.2.2.2.2.2.2.2.2.2.2.2.2.2.2.2) (0, 0, [], 0, 0, 0, 0, 0, t13.1, t13.2.1, t13.2.2.2.2.2.2.1, t13.2.2.2.2.2.2.2.1, t13.2.2.2.2.2.2.2.2.1, t13.2.2.2.2.2.2.2.2.2.1, t13.2.2.2.2.2.2.2.2.2.2, [], [], [], [], t13.2.2.1, t13.2.2.2.1, t13.2.2.2.2.1, t13.2.2.2.2.2.1)).bind (Sum.elim (fun d_1 =>
      cond ((i1.length : Int) == 0)
        (some ((d_1.2.2.2.2.2.2.2.1, d_1.2.2.2.2.2.2.2.2.1, d_1.2.2.2.2.2.2.2.2.2.2.2.2.2.2.2.2.2.2.1, d_1.2.2.2.2.2.2.2.2.2.2.2.2.2.2.2.2.2.2.2.1, d_1.2.2.2.2.2.2.2.2.2.2.2.2.2.2.2.2.2.2.2.2.1, d_1.2.2.2.2.2.2.2.2.2.2.2.2.2.2.2.2.2.2.2.2.2, d_1.2.2.2.2.2.2.2.2.2.1, d_1.2.2.2.2.2.2.2.2.2.2.1, d_1.2.2.2.2.2.2.2.2.2.2.2.1, d_1.2.2.2.2.2.2.2.2.2.2.2.2.1, d_1.2.2.2.2.2.2.2.2.2.2.2.2.2.1), 0, 0))
        ((spec_VtabOk d_1.2.2.2.2.2.2.2.2.2.2.2.2.2.2.2.2.2.2.2.2 (d_1.2.2.2.2.2.2.2.2.2.2.2.2.2.2.2.2.2.2.1.length : Int)).bind fun t75 =>
        cond (!t75)
          ((spec_l11Copy p0).bind fun t78 =>
          some (t78, 5, (i1.length : Int)))
          ((spec_l11Turned (d_1.2.2.2.2.2.2.2.1, d_1.2.2.2.2.2.2.2.2.1, d_1.2.2.2.2.2.2.2.2.2.2.2.2.2.2.2.2.2.2.1, d_1.2.2.2.2.2.2.2.2.2.2.2.2.2.2.2.2.2.2.2.1, d_1.2.2.2.2.2.2.2.2.2.2.2.2.2.2.2.2.2.2.2.2.1, d_1.2.2.2.2.2.2.2.2.2.2.2.2.2.2.2.2.2.2.2.2.2, d_1.2.2.2.2.2.2.2.2.2.1, d_1.2.2.2.2.2.2.2.2.2.2.1, d_1.2.2.2.2.2.2.2.2.2.2.2.1, d_1.2.2.2.2.2.2.2.2.2.2.2.2.1, d_1.2.2.2.2.2.2.2.2.2.2.2.2.2.1)).bind fun t82 =>
          some (t82, 0, 0)))) (fun r_1 => some ((r_1.2.2.1, r_1.2.2.2.1, r_1.2.2.2.2.2.2.2.2.2.1, r_1.2.2.2.2.2.2.2.2.2.2.1, r_1.2.2.2.2.2.2.2.2.2.2.2.1, r_1.2.2.2.2.2.2.2.2.2.2.2.2, r_1.2.2.2.2.1, r_1.2.2.2.2.2.1, r_1.2.2.2.2.2.2.1, r_1.2.2.2.2.2.2.2.1, r_1.2.2.2.2.2.2.2.2.1), r_1.1, r_1.2.1))))
noncomputable def F_spec_SetAll : Fn := ⟨[.val true cBridge false, .val false (.one (.sl cBind)) false], [.val true cBridge true, .val false (.one (.int .i64)) true, .val false (.one (.int .i64)) true], fun a => spec_SetAll a.1 a.2⟩
def a_spec_SetAll : List (Nat × LoopAnn) := [(0, ⟨⟨[(8, false, [.dat (.int .i64)])], [(2048, .box [.dat (.int .i64), .dat .str, .own 1000000000, .own 1000000001, .own 1000000002, .own 1000000003, .dat (.int .i64), .dat (.int .i64), .dat (.int .i64), .dat (.int .i64), .dat (.int .i64)]), (265216, .box [.dat (.int .i64), .dat .str, .own 1000000004, .own 1000000005, .own 1000000006, .own 1000000007, .dat (.int .i64), .dat (.int .i64), .dat (.int .i64), .dat (.int .i64), .dat (.int .i64)]), (1000000000, .root cPt true), (1000000001, .root cFent true), (1000000002, .root cVrow true), (1000000003, .root (.one (.int .i64)) true), (1000000004, .root cPt true), (1000000005, .root cFent true), (1000000006, .root cVrow true), (1000000007, .root (.one (.int .i64)) true)]⟩,
    ⟨[], [(2048, .box [.dat (.int .i64), .dat .str, .own 1000000300, .own 1000000301, .own 1000000302, .own 1000000303, .dat (.int .i64), .dat (.int .i64), .dat (.int .i64), .dat (.int .i64), .dat (.int .i64)]), (265216, .box [.dat (.int .i64), .dat .str, .own 1000000304, .own 1000000305, .own 1000000306, .own 1000000307, .dat (.int .i64), .dat (.int .i64), .dat (.int .i64), .dat (.int .i64), .dat (.int .i64)]), (1000000300, .root cPt true), (1000000301, .root cFent true), (1000000302, .root cVrow true), (1000000303, .root (.one (.int .i64)) true), (1000000304, .root cPt true), (1000000305, .root cFent true), (1000000306, .root cVrow true), (1000000307, .root (.one (.int .i64)) true)]⟩, some ⟨[(5, false, [.dat (.int .i64)]), (6, false, [.dat (.int .i64)])], [(2048, .box [.dat (.int .i64), .dat .str, .own 1000000600, .own 1000000601, .own 1000000602, .own 1000000603, .dat (.int .i64), .dat (.int .i64), .dat (.int .i64), .dat (.int .i64), .dat (.int .i64)]), (1000000600, .root cPt true), (1000000601, .root cFent true), (1000000602, .root cVrow true), (1000000603, .root (.one (.int .i64)) true)]⟩⟩),
  (2, ⟨⟨[(9, false, [.dat (.int .i64)])], [(2048, .box [.dat (.int .i64), .dat .str, .same 1000000000, .same 1000000001, .same 1000000002, .same 1000000003, .dat (.int .i64), .dat (.int .i64), .dat (.int .i64), .dat (.int .i64), .dat (.int .i64)])]⟩,
    ⟨[], [(2048, .box [.dat (.int .i64), .dat .str, .same 1000000000, .same 1000000001, .same 1000000002, .same 1000000003, .dat (.int .i64), .dat (.int .i64), .dat (.int .i64), .dat (.int .i64), .dat (.int .i64)])]⟩, some ⟨[(5, false, [.dat (.int .i64)]), (6, false, [.dat (.int .i64)])], [(2048, .box [.dat (.int .i64), .dat .str, .own 1000002600, .own 1000002601, .own 1000002602, .own 1000002603, .dat (.int .i64), .dat (.int .i64), .dat (.int .i64), .dat (.int .i64), .dat (.int .i64)]), (1000002600, .root cPt true), (1000002601, .root cFent true), (1000002602, .root cVrow true), (1000002603, .root (.one (.int .i64)) true)]⟩⟩)]
theorem e_spec_SetAll : fnDen ⟨tis, fns_98, [], false⟩ a_spec_SetAll Tryz.f25 (codeOf Tryz.f25) [.val true cBridge false, .val false (.one (.sl cBind)) false] [.val true cBridge true, .val false (.one (.int .i64)) true, .val false (.one (.int .i64)) true] = fun a => spec_SetAll a.1 a.2 := by kernel_rfl
theorem m_spec_SetAll : Meets Tryz.prog 25 F_spec_SetAll := by
  have h := meets_of (ann := a_spec_SetAll) (ps := [.val true cBridge false, .val false (.one (.sl cBind)) false]) (rs := [.val true cBridge true, .val false (.one (.int .i64)) true, .val false (.one (.int .i64)) true]) g_98 mixed Tryz.func25 (by kernel_rfl) (by kernel_rfl : Tryz.f25.body = some (codeOf Tryz.f25))
  rw [e_spec_SetAll] at h
  exact h
noncomputable def fns_25 : List (FuncId × Fn) := (25, F_spec_SetAll) :: fns_98
theorem g_25 : Good Tryz.prog ⟨tis, fns_25, [], false⟩ := g_98.cons m_spec_SetAll
noncomputable def laws_szPtS (a0 : List Pt) (left1 : Int) : Option Int :=
  let left1_1 := w64 (left1 - (a0.length : Int))
  cond (decide (left1_1 < 0)) (some (-1)) (some left1_1)
noncomputable def F_laws_szPtS : Fn := ⟨[.val false (.one (.sl cPt)) false, .val false (.one (.int .i64)) false], [.val false (.one (.int .i64)) true], fun a => laws_szPtS a.1 a.2⟩
def a_laws_szPtS : List (Nat × LoopAnn) := []
theorem e_laws_szPtS : fnDen ⟨tis, fns_25, [], false⟩ a_laws_szPtS Tryz.f117 (codeOf Tryz.f117) [.val false (.one (.sl cPt)) false, .val false (.one (.int .i64)) false] [.val false (.one (.int .i64)) true] = fun a => laws_szPtS a.1 a.2 := by kernel_rfl
theorem m_laws_szPtS : Meets Tryz.prog 117 F_laws_szPtS := by
  have h := meets_of (ann := a_laws_szPtS) (ps := [.val false (.one (.sl cPt)) false, .val false (.one (.int .i64)) false]) (rs := [.val false (.one (.int .i64)) true]) g_25 mixed Tryz.func117 (by kernel_rfl) (by kernel_rfl : Tryz.f117.body = some (codeOf Tryz.f117))
  rw [e_laws_szPtS] at h
  exact h
noncomputable def fns_117 : List (FuncId × Fn) := (117, F_laws_szPtS) :: fns_25
theorem g_117 : Good Tryz.prog ⟨tis, fns_117, [], false⟩ := g_25.cons m_laws_szPtS
noncomputable def laws_szFentS (a0 : List Fent) (left1 : Int) : Option Int :=
  let left1_1 := w64 (left1 - (a0.length : Int))
  cond (decide (left1_1 < 0)) (some (-1)) (some left1_1)
noncomputable def F_laws_szFentS : Fn := ⟨[.val false (.one (.sl cFent)) false, .val false (.one (.int .i64)) false], [.val false (.one (.int .i64)) true], fun a => laws_szFentS a.1 a.2⟩
def a_laws_szFentS : List (Nat × LoopAnn) := []
theorem e_laws_szFentS : fnDen ⟨tis, fns_117, [], false⟩ a_laws_szFentS Tryz.f118 (codeOf Tryz.f118) [.val false (.one (.sl cFent)) false, .val false (.one (.int .i64)) false] [.val false (.one (.int .i64)) true] = fun a => laws_szFentS a.1 a.2 := by kernel_rfl
theorem m_laws_szFentS : Meets Tryz.prog 118 F_laws_szFentS := by
  have h := meets_of (ann := a_laws_szFentS) (ps := [.val false (.one (.sl cFent)) false, .val false (.one (.int .i64)) false]) (rs := [.val false (.one (.int .i64)) true]) g_117 mixed Tryz.func118 (by kernel_rfl) (by kernel_rfl : Tryz.f118.body = some (codeOf Tryz.f118))
  rw [e_laws_szFentS] at h
  exact h
noncomputable def fns_118 : List (FuncId × Fn) := (118, F_laws_szFentS) :: fns_117
theorem g_118 : Good Tryz.prog ⟨tis, fns_118, [], false⟩ := g_117.cons m_laws_szFentS
noncomputable def laws_szVrowS (a0 : List Vrow) (left1 : Int) : Option Int :=
  let left1_1 := w64 (left1 - (a0.length : Int))
  cond (decide (left1_1 < 0)) (some (-1)) (some left1_1)
noncomputable def F_laws_szVrowS : Fn := ⟨[.val false (.one (.sl cVrow)) false, .val false (.one (.int .i64)) false], [.val false (.one (.int .i64)) true], fun a => laws_szVrowS a.1 a.2⟩
def a_laws_szVrowS : List (Nat × LoopAnn) := []
theorem e_laws_szVrowS : fnDen ⟨tis, fns_118, [], false⟩ a_laws_szVrowS Tryz.f237 (codeOf Tryz.f237) [.val false (.one (.sl cVrow)) false, .val false (.one (.int .i64)) false] [.val false (.one (.int .i64)) true] = fun a => laws_szVrowS a.1 a.2 := by kernel_rfl
theorem m_laws_szVrowS : Meets Tryz.prog 237 F_laws_szVrowS := by
  have h := meets_of (ann := a_laws_szVrowS) (ps := [.val false (.one (.sl cVrow)) false, .val false (.one (.int .i64)) false]) (rs := [.val false (.one (.int .i64)) true]) g_118 mixed Tryz.func237 (by kernel_rfl) (by kernel_rfl : Tryz.f237.body = some (codeOf Tryz.f237))
  rw [e_laws_szVrowS] at h
  exact h
noncomputable def fns_237 : List (FuncId × Fn) := (237, F_laws_szVrowS) :: fns_118
theorem g_237 : Good Tryz.prog ⟨tis, fns_237, [], false⟩ := g_118.cons m_laws_szVrowS
noncomputable def laws_szIntS (a0 : List Int) (left1 : Int) : Option Int :=
  let left1_1 := w64 (left1 - (a0.length : Int))
  cond (decide (left1_1 < 0)) (some (-1)) (some left1_1)
noncomputable def F_laws_szIntS : Fn := ⟨[.val false (.one (.sl (.one (.int .i64)))) false, .val false (.one (.int .i64)) false], [.val false (.one (.int .i64)) true], fun a => laws_szIntS a.1 a.2⟩
def a_laws_szIntS : List (Nat × LoopAnn) := []
theorem e_laws_szIntS : fnDen ⟨tis, fns_237, [], false⟩ a_laws_szIntS Tryz.f238 (codeOf Tryz.f238) [.val false (.one (.sl (.one (.int .i64)))) false, .val false (.one (.int .i64)) false] [.val false (.one (.int .i64)) true] = fun a => laws_szIntS a.1 a.2 := by kernel_rfl
theorem m_laws_szIntS : Meets Tryz.prog 238 F_laws_szIntS := by
  have h := meets_of (ann := a_laws_szIntS) (ps := [.val false (.one (.sl (.one (.int .i64)))) false, .val false (.one (.int .i64)) false]) (rs := [.val false (.one (.int .i64)) true]) g_237 mixed Tryz.func238 (by kernel_rfl) (by kernel_rfl : Tryz.f238.body = some (codeOf Tryz.f238))
  rw [e_laws_szIntS] at h
  exact h
noncomputable def fns_238 : List (FuncId × Fn) := (238, F_laws_szIntS) :: fns_237
theorem g_238 : Good Tryz.prog ⟨tis, fns_238, [], false⟩ := g_237.cons m_laws_szIntS
noncomputable def laws_szVtab (a0 : Vtab) (left1 : Int) : Option Int :=
  (laws_szVrowS a0.1 left1).bind fun t8 =>
  cond (decide (t8 < 0))
    (some (-1))
    ((laws_szIntS a0.2 t8).bind fun t14 =>
    cond (decide (t14 < 0)) (some (-1)) (some t14))
noncomputable def F_laws_szVtab : Fn := ⟨[.val true cVtab false, .val false (.one (.int .i64)) false], [.val false (.one (.int .i64)) true], fun a => laws_szVtab a.1 a.2⟩
def a_laws_szVtab : List (Nat × LoopAnn) := []
theorem e_laws_szVtab : fnDen ⟨tis, fns_238, [], false⟩ a_laws_szVtab Tryz.f119 (codeOf Tryz.f119) [.val true cVtab false, .val false (.one (.int .i64)) false] [.val false (.one (.int .i64)) true] = fun a => laws_szVtab a.1 a.2 := by kernel_rfl
theorem m_laws_szVtab : Meets Tryz.prog 119 F_laws_szVtab := by
  have h := meets_of (ann := a_laws_szVtab) (ps := [.val true cVtab false, .val false (.one (.int .i64)) false]) (rs := [.val false (.one (.int .i64)) true]) g_238 mixed Tryz.func119 (by kernel_rfl) (by kernel_rfl : Tryz.f119.body = some (codeOf Tryz.f119))
  rw [e_laws_szVtab] at h
  exact h
noncomputable def fns_119 : List (FuncId × Fn) := (119, F_laws_szVtab) :: fns_238
theorem g_119 : Good Tryz.prog ⟨tis, fns_119, [], false⟩ := g_238.cons m_laws_szVtab
noncomputable def laws_szBridge (a0 : Bridge) (left1 : Int) : Option Int :=
  let left1_1 := w64 (left1 - (a0.2.1.length : Int))
  cond (decide (left1_1 < 0))
    (some (-1))
    ((laws_szPtS a0.2.2.1 left1_1).bind fun t15 =>
    cond (decide (t15 < 0))
      (some (-1))
      ((laws_szFentS a0.2.2.2.1 t15).bind fun t21 =>
      cond (decide (t21 < 0))
        (some (-1))
        ((laws_szVtab (a0.2.2.2.2.1, a0.2.2.2.2.2.1) t21).bind fun t27 =>
        cond (decide (t27 < 0)) (some (-1)) (some t27))))
noncomputable def F_laws_szBridge : Fn := ⟨[.val true cBridge false, .val false (.one (.int .i64)) false], [.val false (.one (.int .i64)) true], fun a => laws_szBridge a.1 a.2⟩
def a_laws_szBridge : List (Nat × LoopAnn) := []
theorem e_laws_szBridge : fnDen ⟨tis, fns_119, [], false⟩ a_laws_szBridge Tryz.f40 (codeOf Tryz.f40) [.val true cBridge false, .val false (.one (.int .i64)) false] [.val false (.one (.int .i64)) true] = fun a => laws_szBridge a.1 a.2 := by kernel_rfl
theorem m_laws_szBridge : Meets Tryz.prog 40 F_laws_szBridge := by
  have h := meets_of (ann := a_laws_szBridge) (ps := [.val true cBridge false, .val false (.one (.int .i64)) false]) (rs := [.val false (.one (.int .i64)) true]) g_119 mixed Tryz.func40 (by kernel_rfl) (by kernel_rfl : Tryz.f40.body = some (codeOf Tryz.f40))
  rw [e_laws_szBridge] at h
  exact h
noncomputable def fns_40 : List (FuncId × Fn) := (40, F_laws_szBridge) :: fns_119
theorem g_40 : Good Tryz.prog ⟨tis, fns_40, [], false⟩ := g_119.cons m_laws_szBridge
noncomputable def laws_szVal (a0 : Val) (left1 : Int) : Option Int :=
  let left1_1 := w64 (left1 - (a0.2.2.1.length : Int))
  cond (decide (left1_1 < 0))
    (some (-1))
    ((laws_szIntS a0.2.2.2 left1_1).bind fun t15 =>
    cond (decide (t15 < 0)) (some (-1)) (some t15))
noncomputable def F_laws_szVal : Fn := ⟨[.val true cVal false, .val false (.one (.int .i64)) false], [.val false (.one (.int .i64)) true], fun a => laws_szVal a.1 a.2⟩
def a_laws_szVal : List (Nat × LoopAnn) := []
theorem e_laws_szVal : fnDen ⟨tis, fns_40, [], false⟩ a_laws_szVal Tryz.f239 (codeOf Tryz.f239) [.val true cVal false, .val false (.one (.int .i64)) false] [.val false (.one (.int .i64)) true] = fun a => laws_szVal a.1 a.2 := by kernel_rfl
theorem m_laws_szVal : Meets Tryz.prog 239 F_laws_szVal := by
  have h := meets_of (ann := a_laws_szVal) (ps := [.val true cVal false, .val false (.one (.int .i64)) false]) (rs := [.val false (.one (.int .i64)) true]) g_40 mixed Tryz.func239 (by kernel_rfl) (by kernel_rfl : Tryz.f239.body = some (codeOf Tryz.f239))
  rw [e_laws_szVal] at h
  exact h
noncomputable def fns_239 : List (FuncId × Fn) := (239, F_laws_szVal) :: fns_40
theorem g_239 : Good Tryz.prog ⟨tis, fns_239, [], false⟩ := g_40.cons m_laws_szVal
noncomputable def laws_szBind (a0 : Bind) (left1 : Int) : Option Int :=
  (laws_szIntS a0.1 left1).bind fun t8 =>
  cond (decide (t8 < 0))
    (some (-1))
    ((laws_szVal a0.2 t8).bind fun t14 =>
    cond (decide (t14 < 0)) (some (-1)) (some t14))
noncomputable def F_laws_szBind : Fn := ⟨[.val true cBind false, .val false (.one (.int .i64)) false], [.val false (.one (.int .i64)) true], fun a => laws_szBind a.1 a.2⟩
def a_laws_szBind : List (Nat × LoopAnn) := []
theorem e_laws_szBind : fnDen ⟨tis, fns_239, [], false⟩ a_laws_szBind Tryz.f120 (codeOf Tryz.f120) [.val true cBind false, .val false (.one (.int .i64)) false] [.val false (.one (.int .i64)) true] = fun a => laws_szBind a.1 a.2 := by kernel_rfl
theorem m_laws_szBind : Meets Tryz.prog 120 F_laws_szBind := by
  have h := meets_of (ann := a_laws_szBind) (ps := [.val true cBind false, .val false (.one (.int .i64)) false]) (rs := [.val false (.one (.int .i64)) true]) g_239 mixed Tryz.func120 (by kernel_rfl) (by kernel_rfl : Tryz.f120.body = some (codeOf Tryz.f120))
  rw [e_laws_szBind] at h
  exact h
noncomputable def fns_120 : List (FuncId × Fn) := (120, F_laws_szBind) :: fns_239
theorem g_120 : Good Tryz.prog ⟨tis, fns_120, [], false⟩ := g_239.cons m_laws_szBind
noncomputable def laws_szBindS_l0 (a0 : List Bind) (left1_2 : Int) (i5 : Int) : Option ((Int × Int) ⊕ (Int ⊕ Int)) :=
  cond (decide (i5 < (a0.length : Int)))
    ((at? a0 i5).bind fun x20 =>
    (laws_szBind x20 left1_2).bind fun t23 =>
    cond (decide (t23 < 0)) (some (.inr (.inr (-1)))) (some (.inl (t23, w64 (i5 + 1)))))
    (some (.inr (.inl left1_2)))
noncomputable def laws_szBindS (a0 : List Bind) (left1 : Int) : Option Int :=
  let left1_1 := w64 (left1 - (a0.length : Int))
  cond (decide (left1_1 < 0))
    (some (-1))
    ((loop (fun z => laws_szBindS_l0 a0 z.1 z.2) (left1_1, 0)).bind (Sum.elim (fun d =>
      some d) (fun r => some r)))
noncomputable def F_laws_szBindS : Fn := ⟨[.val false (.one (.sl cBind)) false, .val false (.one (.int .i64)) false], [.val false (.one (.int .i64)) true], fun a => laws_szBindS a.1 a.2⟩
def a_laws_szBindS : List (Nat × LoopAnn) := [(0, ⟨⟨[(1, false, [.dat (.int .i64)]), (5, false, [.dat (.int .i64)])], []⟩,
    ⟨[(1, false, [.dat (.int .i64)])], []⟩, some ⟨[(4, false, [.dat (.int .i64)])], []⟩⟩)]
theorem e_laws_szBindS : fnDen ⟨tis, fns_120, [], false⟩ a_laws_szBindS Tryz.f41 (codeOf Tryz.f41) [.val false (.one (.sl cBind)) false, .val false (.one (.int .i64)) false] [.val false (.one (.int .i64)) true] = fun a => laws_szBindS a.1 a.2 := by kernel_rfl
theorem m_laws_szBindS : Meets Tryz.prog 41 F_laws_szBindS := by
  have h := meets_of (ann := a_laws_szBindS) (ps := [.val false (.one (.sl cBind)) false, .val false (.one (.int .i64)) false]) (rs := [.val false (.one (.int .i64)) true]) g_120 mixed Tryz.func41 (by kernel_rfl) (by kernel_rfl : Tryz.f41.body = some (codeOf Tryz.f41))
  rw [e_laws_szBindS] at h
  exact h
noncomputable def fns_41 : List (FuncId × Fn) := (41, F_laws_szBindS) :: fns_120
theorem g_41 : Good Tryz.prog ⟨tis, fns_41, [], false⟩ := g_120.cons m_laws_szBindS
noncomputable def laws_toVec (a0 : Vec) : Option Vec :=
  some a0
noncomputable def F_laws_toVec : Fn := ⟨[.val true cVec false], [.val true cVec true], fun a => laws_toVec a⟩
def a_laws_toVec : List (Nat × LoopAnn) := []
theorem e_laws_toVec : fnDen ⟨tis, fns_41, [], false⟩ a_laws_toVec Tryz.f321 (codeOf Tryz.f321) [.val true cVec false] [.val true cVec true] = fun a => laws_toVec a := by kernel_rfl
theorem m_laws_toVec : Meets Tryz.prog 321 F_laws_toVec := by
  have h := meets_of (ann := a_laws_toVec) (ps := [.val true cVec false]) (rs := [.val true cVec true]) g_41 mixed Tryz.func321 (by kernel_rfl) (by kernel_rfl : Tryz.f321.body = some (codeOf Tryz.f321))
  rw [e_laws_toVec] at h
  exact h
noncomputable def fns_321 : List (FuncId × Fn) := (321, F_laws_toVec) :: fns_41
theorem g_321 : Good Tryz.prog ⟨tis, fns_321, [], false⟩ := g_41.cons m_laws_toVec
noncomputable def laws_toPt (a0 : Pt) : Option Pt :=
  (laws_toVec a0.2.2.2).bind fun t15 =>
  some (a0.1, a0.2.1, a0.2.2.1, t15.1, t15.2.1, t15.2.2.1, t15.2.2.2.1, t15.2.2.2.2)
noncomputable def F_laws_toPt : Fn := ⟨[.val true cPt false], [.val true cPt true], fun a => laws_toPt a⟩
def a_laws_toPt : List (Nat × LoopAnn) := []
theorem e_laws_toPt : fnDen ⟨tis, fns_321, [], false⟩ a_laws_toPt Tryz.f240 (codeOf Tryz.f240) [.val true cPt false] [.val true cPt true] = fun a => laws_toPt a := by kernel_rfl
theorem m_laws_toPt : Meets Tryz.prog 240 F_laws_toPt := by
  have h := meets_of (ann := a_laws_toPt) (ps := [.val true cPt false]) (rs := [.val true cPt true]) g_321 mixed Tryz.func240 (by kernel_rfl) (by kernel_rfl : Tryz.f240.body = some (codeOf Tryz.f240))
  rw [e_laws_toPt] at h
  exact h
noncomputable def fns_240 : List (FuncId × Fn) := (240, F_laws_toPt) :: fns_321
theorem g_240 : Good Tryz.prog ⟨tis, fns_240, [], false⟩ := g_321.cons m_laws_toPt
noncomputable def laws_toPtS_l0 (a0 : List Pt) (i4 : Int) (l : List Pt) : Option ((Int × List Pt) ⊕ (List Pt)) :=
  cond (decide (i4 < (a0.length : Int)))
    ((at? a0 i4).bind fun x18 =>
    (laws_toPt x18).bind fun t20 =>
    (ix l.length i4).bind fun j21 =>
    (l[j21]?).bind fun x =>
    some (.inl (w64 (i4 + 1), l.set j21 t20)))
    (some (.inr l))
noncomputable def laws_toPtS (a0 : List Pt) : Option (List Pt) :=
  (mkLen (a0.length : Int)).bind fun n =>
  (loop (fun z => laws_toPtS_l0 a0 z.1 z.2) (0, List.replicate n ((false, 0, false, 0, 0, 0, 0, 0) : Pt))).bind fun d =>
  some d
noncomputable def F_laws_toPtS : Fn := ⟨[.val false (.one (.sl cPt)) false], [.val false (.one (.sl cPt)) true], fun a => laws_toPtS a⟩
def a_laws_toPtS : List (Nat × LoopAnn) := [(0, ⟨⟨[(4, false, [.dat (.int .i64)])], [(265216, .keep cPt true)]⟩,
    ⟨[], [(265216, .keep cPt true)]⟩, none⟩)]
theorem e_laws_toPtS : fnDen ⟨tis, fns_240, [], false⟩ a_laws_toPtS Tryz.f121 (codeOf Tryz.f121) [.val false (.one (.sl cPt)) false] [.val false (.one (.sl cPt)) true] = fun a => laws_toPtS a := by kernel_rfl
theorem m_laws_toPtS : Meets Tryz.prog 121 F_laws_toPtS := by
  have h := meets_of (ann := a_laws_toPtS) (ps := [.val false (.one (.sl cPt)) false]) (rs := [.val false (.one (.sl cPt)) true]) g_240 mixed Tryz.func121 (by kernel_rfl) (by kernel_rfl : Tryz.f121.body = some (codeOf Tryz.f121))
  rw [e_laws_toPtS] at h
  exact h
noncomputable def fns_121 : List (FuncId × Fn) := (121, F_laws_toPtS) :: fns_240
theorem g_121 : Good Tryz.prog ⟨tis, fns_121, [], false⟩ := g_240.cons m_laws_toPtS
noncomputable def laws_toFent (a0 : Fent) : Option Fent :=
  some a0
noncomputable def F_laws_toFent : Fn := ⟨[.val true cFent false], [.val true cFent true], fun a => laws_toFent a⟩
def a_laws_toFent : List (Nat × LoopAnn) := []
theorem e_laws_toFent : fnDen ⟨tis, fns_121, [], false⟩ a_laws_toFent Tryz.f241 (codeOf Tryz.f241) [.val true cFent false] [.val true cFent true] = fun a => laws_toFent a := by kernel_rfl
theorem m_laws_toFent : Meets Tryz.prog 241 F_laws_toFent := by
  have h := meets_of (ann := a_laws_toFent) (ps := [.val true cFent false]) (rs := [.val true cFent true]) g_121 mixed Tryz.func241 (by kernel_rfl) (by kernel_rfl : Tryz.f241.body = some (codeOf Tryz.f241))
  rw [e_laws_toFent] at h
  exact h
noncomputable def fns_241 : List (FuncId × Fn) := (241, F_laws_toFent) :: fns_121
theorem g_241 : Good Tryz.prog ⟨tis, fns_241, [], false⟩ := g_121.cons m_laws_toFent
noncomputable def laws_toFentS_l0 (a0 : List Fent) (i4 : Int) (l : List Fent) : Option ((Int × List Fent) ⊕ (List Fent)) :=
  cond (decide (i4 < (a0.length : Int)))
    ((at? a0 i4).bind fun x18 =>
    (laws_toFent x18).bind fun t20 =>
    (ix l.length i4).bind fun j21 =>
    (l[j21]?).bind fun x =>
    some (.inl (w64 (i4 + 1), l.set j21 t20)))
    (some (.inr l))
noncomputable def laws_toFentS (a0 : List Fent) : Option (List Fent) :=
  (mkLen (a0.length : Int)).bind fun n =>
  (loop (fun z => laws_toFentS_l0 a0 z.1 z.2) (0, List.replicate n ((0, 0, 0, 0, false) : Fent))).bind fun d =>
  some d
noncomputable def F_laws_toFentS : Fn := ⟨[.val false (.one (.sl cFent)) false], [.val false (.one (.sl cFent)) true], fun a => laws_toFentS a⟩
def a_laws_toFentS : List (Nat × LoopAnn) := [(0, ⟨⟨[(4, false, [.dat (.int .i64)])], [(265216, .keep cFent true)]⟩,
    ⟨[], [(265216, .keep cFent true)]⟩, none⟩)]
theorem e_laws_toFentS : fnDen ⟨tis, fns_241, [], false⟩ a_laws_toFentS Tryz.f122 (codeOf Tryz.f122) [.val false (.one (.sl cFent)) false] [.val false (.one (.sl cFent)) true] = fun a => laws_toFentS a := by kernel_rfl
theorem m_laws_toFentS : Meets Tryz.prog 122 F_laws_toFentS := by
  have h := meets_of (ann := a_laws_toFentS) (ps := [.val false (.one (.sl cFent)) false]) (rs := [.val false (.one (.sl cFent)) true]) g_241 mixed Tryz.func122 (by kernel_rfl) (by kernel_rfl : Tryz.f122.body = some (codeOf Tryz.f122))
  rw [e_laws_toFentS] at h
  exact h
noncomputable def fns_122 : List (FuncId × Fn) := (122, F_laws_toFentS) :: fns_241
theorem g_122 : Good Tryz.prog ⟨tis, fns_122, [], false⟩ := g_241.cons m_laws_toFentS
noncomputable def laws_toVrow (a0 : Vrow) : Option Vrow :=
  some a0
noncomputable def F_laws_toVrow : Fn := ⟨[.val true cVrow false], [.val true cVrow true], fun a => laws_toVrow a⟩
def a_laws_toVrow : List (Nat × LoopAnn) := []
theorem e_laws_toVrow : fnDen ⟨tis, fns_122, [], false⟩ a_laws_toVrow Tryz.f322 (codeOf Tryz.f322) [.val true cVrow false] [.val true cVrow true] = fun a => laws_toVrow a := by kernel_rfl
theorem m_laws_toVrow : Meets Tryz.prog 322 F_laws_toVrow := by
  have h := meets_of (ann := a_laws_toVrow) (ps := [.val true cVrow false]) (rs := [.val true cVrow true]) g_122 mixed Tryz.func322 (by kernel_rfl) (by kernel_rfl : Tryz.f322.body = some (codeOf Tryz.f322))
  rw [e_laws_toVrow] at h
  exact h
noncomputable def fns_322 : List (FuncId × Fn) := (322, F_laws_toVrow) :: fns_122
theorem g_322 : Good Tryz.prog ⟨tis, fns_322, [], false⟩ := g_122.cons m_laws_toVrow
noncomputable def laws_toVrowS_l0 (a0 : List Vrow) (i4 : Int) (l : List Vrow) : Option ((Int × List Vrow) ⊕ (List Vrow)) :=
  cond (decide (i4 < (a0.length : Int)))
    ((at? a0 i4).bind fun x18 =>
    (laws_toVrow x18).bind fun t20 =>
    (ix l.length i4).bind fun j21 =>
    (l[j21]?).bind fun x =>
    some (.inl (w64 (i4 + 1), l.set j21 t20)))
    (some (.inr l))
noncomputable def laws_toVrowS (a0 : List Vrow) : Option (List Vrow) :=
  (mkLen (a0.length : Int)).bind fun n =>
  (loop (fun z => laws_toVrowS_l0 a0 z.1 z.2) (0, List.replicate n ((0, 0, 0) : Vrow))).bind fun d =>
  some d
noncomputable def F_laws_toVrowS : Fn := ⟨[.val false (.one (.sl cVrow)) false], [.val false (.one (.sl cVrow)) true], fun a => laws_toVrowS a⟩
def a_laws_toVrowS : List (Nat × LoopAnn) := [(0, ⟨⟨[(4, false, [.dat (.int .i64)])], [(265216, .keep cVrow true)]⟩,
    ⟨[], [(265216, .keep cVrow true)]⟩, none⟩)]
theorem e_laws_toVrowS : fnDen ⟨tis, fns_322, [], false⟩ a_laws_toVrowS Tryz.f242 (codeOf Tryz.f242) [.val false (.one (.sl cVrow)) false] [.val false (.one (.sl cVrow)) true] = fun a => laws_toVrowS a := by kernel_rfl
theorem m_laws_toVrowS : Meets Tryz.prog 242 F_laws_toVrowS := by
  have h := meets_of (ann := a_laws_toVrowS) (ps := [.val false (.one (.sl cVrow)) false]) (rs := [.val false (.one (.sl cVrow)) true]) g_322 mixed Tryz.func242 (by kernel_rfl) (by kernel_rfl : Tryz.f242.body = some (codeOf Tryz.f242))
  rw [e_laws_toVrowS] at h
  exact h
noncomputable def fns_242 : List (FuncId × Fn) := (242, F_laws_toVrowS) :: fns_322
theorem g_242 : Good Tryz.prog ⟨tis, fns_242, [], false⟩ := g_322.cons m_laws_toVrowS
noncomputable def laws_toIntS_l0 (a0 : List Int) (i4 : Int) (l : List Int) : Option ((Int × List Int) ⊕ (List Int)) :=
  cond (decide (i4 < (a0.length : Int)))
    ((at? a0 i4).bind fun x18 =>
    (ix l.length i4).bind fun j20 =>
    (l[j20]?).bind fun x =>
    some (.inl (w64 (i4 + 1), l.set j20 x18)))
    (some (.inr l))
noncomputable def laws_toIntS (a0 : List Int) : Option (List Int) :=
  (mkLen (a0.length : Int)).bind fun n =>
  (loop (fun z => laws_toIntS_l0 a0 z.1 z.2) (0, List.replicate n (0 : Int))).bind fun d =>
  some d
noncomputable def F_laws_toIntS : Fn := ⟨[.val false (.one (.sl (.one (.int .i64)))) false], [.val false (.one (.sl (.one (.int .i64)))) true], fun a => laws_toIntS a⟩
def a_laws_toIntS : List (Nat × LoopAnn) := [(0, ⟨⟨[(4, false, [.dat (.int .i64)])], [(265216, .keep (.one (.int .i64)) true)]⟩,
    ⟨[], [(265216, .keep (.one (.int .i64)) true)]⟩, none⟩)]
theorem e_laws_toIntS : fnDen ⟨tis, fns_242, [], false⟩ a_laws_toIntS Tryz.f243 (codeOf Tryz.f243) [.val false (.one (.sl (.one (.int .i64)))) false] [.val false (.one (.sl (.one (.int .i64)))) true] = fun a => laws_toIntS a := by kernel_rfl
theorem m_laws_toIntS : Meets Tryz.prog 243 F_laws_toIntS := by
  have h := meets_of (ann := a_laws_toIntS) (ps := [.val false (.one (.sl (.one (.int .i64)))) false]) (rs := [.val false (.one (.sl (.one (.int .i64)))) true]) g_242 mixed Tryz.func243 (by kernel_rfl) (by kernel_rfl : Tryz.f243.body = some (codeOf Tryz.f243))
  rw [e_laws_toIntS] at h
  exact h
noncomputable def fns_243 : List (FuncId × Fn) := (243, F_laws_toIntS) :: fns_242
theorem g_243 : Good Tryz.prog ⟨tis, fns_243, [], false⟩ := g_242.cons m_laws_toIntS
noncomputable def laws_toVtab (a0 : Vtab) : Option Vtab :=
  (laws_toVrowS a0.1).bind fun t6 =>
  (laws_toIntS a0.2).bind fun t10 =>
  some (t6, t10)
noncomputable def F_laws_toVtab : Fn := ⟨[.val true cVtab false], [.val true cVtab true], fun a => laws_toVtab a⟩
def a_laws_toVtab : List (Nat × LoopAnn) := []
theorem e_laws_toVtab : fnDen ⟨tis, fns_243, [], false⟩ a_laws_toVtab Tryz.f123 (codeOf Tryz.f123) [.val true cVtab false] [.val true cVtab true] = fun a => laws_toVtab a := by kernel_rfl
theorem m_laws_toVtab : Meets Tryz.prog 123 F_laws_toVtab := by
  have h := meets_of (ann := a_laws_toVtab) (ps := [.val true cVtab false]) (rs := [.val true cVtab true]) g_243 mixed Tryz.func123 (by kernel_rfl) (by kernel_rfl : Tryz.f123.body = some (codeOf Tryz.f123))
  rw [e_laws_toVtab] at h
  exact h
noncomputable def fns_123 : List (FuncId × Fn) := (123, F_laws_toVtab) :: fns_243
theorem g_123 : Good Tryz.prog ⟨tis, fns_123, [], false⟩ := g_243.cons m_laws_toVtab
noncomputable def laws_toBridge (a0 : Bridge) : Option Bridge :=
  (laws_toPtS a0.2.2.1).bind fun t12 =>
  (laws_toFentS a0.2.2.2.1).bind fun t16 =>
  (laws_toVtab (a0.2.2.2.2.1, a0.2.2.2.2.2.1)).bind fun t20 =>
  some (a0.1, a0.2.1, t12, t16, t20.1, t20.2, a0.2.2.2.2.2.2.1, a0.2.2.2.2.2.2.2.1, a0.2.2.2.2.2.2.2.2.1, a0.2.2.2.2.2.2.2.2.2.1, a0.2.2.2.2.2.2.2.2.2.2)
noncomputable def F_laws_toBridge : Fn := ⟨[.val true cBridge false], [.val true cBridge true], fun a => laws_toBridge a⟩
def a_laws_toBridge : List (Nat × LoopAnn) := []
theorem e_laws_toBridge : fnDen ⟨tis, fns_123, [], false⟩ a_laws_toBridge Tryz.f42 (codeOf Tryz.f42) [.val true cBridge false] [.val true cBridge true] = fun a => laws_toBridge a := by kernel_rfl
theorem m_laws_toBridge : Meets Tryz.prog 42 F_laws_toBridge := by
  have h := meets_of (ann := a_laws_toBridge) (ps := [.val true cBridge false]) (rs := [.val true cBridge true]) g_123 mixed Tryz.func42 (by kernel_rfl) (by kernel_rfl : Tryz.f42.body = some (codeOf Tryz.f42))
  rw [e_laws_toBridge] at h
  exact h
noncomputable def fns_42 : List (FuncId × Fn) := (42, F_laws_toBridge) :: fns_123
theorem g_42 : Good Tryz.prog ⟨tis, fns_42, [], false⟩ := g_123.cons m_laws_toBridge
noncomputable def laws_toVal (a0 : Val) : Option Val :=
  (laws_toIntS a0.2.2.2).bind fun t15 =>
  some (a0.1, a0.2.1, a0.2.2.1, t15)
noncomputable def F_laws_toVal : Fn := ⟨[.val true cVal false], [.val true cVal true], fun a => laws_toVal a⟩
def a_laws_toVal : List (Nat × LoopAnn) := []
theorem e_laws_toVal : fnDen ⟨tis, fns_42, [], false⟩ a_laws_toVal Tryz.f244 (codeOf Tryz.f244) [.val true cVal false] [.val true cVal true] = fun a => laws_toVal a := by kernel_rfl
theorem m_laws_toVal : Meets Tryz.prog 244 F_laws_toVal := by
  have h := meets_of (ann := a_laws_toVal) (ps := [.val true cVal false]) (rs := [.val true cVal true]) g_42 mixed Tryz.func244 (by kernel_rfl) (by kernel_rfl : Tryz.f244.body = some (codeOf Tryz.f244))
  rw [e_laws_toVal] at h
  exact h
noncomputable def fns_244 : List (FuncId × Fn) := (244, F_laws_toVal) :: fns_42
theorem g_244 : Good Tryz.prog ⟨tis, fns_244, [], false⟩ := g_42.cons m_laws_toVal
noncomputable def laws_toBind (a0 : Bind) : Option Bind :=
  (laws_toIntS a0.1).bind fun t6 =>
  (laws_toVal a0.2).bind fun t10 =>
  some (t6, t10.1, t10.2.1, t10.2.2.1, t10.2.2.2)
noncomputable def F_laws_toBind : Fn := ⟨[.val true cBind false], [.val true cBind true], fun a => laws_toBind a⟩
def a_laws_toBind : List (Nat × LoopAnn) := []
theorem e_laws_toBind : fnDen ⟨tis, fns_244, [], false⟩ a_laws_toBind Tryz.f124 (codeOf Tryz.f124) [.val true cBind false] [.val true cBind true] = fun a => laws_toBind a := by kernel_rfl
theorem m_laws_toBind : Meets Tryz.prog 124 F_laws_toBind := by
  have h := meets_of (ann := a_laws_toBind) (ps := [.val true cBind false]) (rs := [.val true cBind true]) g_244 mixed Tryz.func124 (by kernel_rfl) (by kernel_rfl : Tryz.f124.body = some (codeOf Tryz.f124))
  rw [e_laws_toBind] at h
  exact h
noncomputable def fns_124 : List (FuncId × Fn) := (124, F_laws_toBind) :: fns_244
theorem g_124 : Good Tryz.prog ⟨tis, fns_124, [], false⟩ := g_244.cons m_laws_toBind
noncomputable def laws_toBindS_l0 (a0 : List Bind) (i4 : Int) (l : List Bind) : Option ((Int × List Bind) ⊕ (List Bind)) :=
  cond (decide (i4 < (a0.length : Int)))
    ((at? a0 i4).bind fun x18 =>
    (laws_toBind x18).bind fun t20 =>
    (ix l.length i4).bind fun j21 =>
    (l[j21]?).bind fun x =>
    some (.inl (w64 (i4 + 1), l.set j21 t20)))
    (some (.inr l))
noncomputable def laws_toBindS (a0 : List Bind) : Option (List Bind) :=
  (mkLen (a0.length : Int)).bind fun n =>
  (loop (fun z => laws_toBindS_l0 a0 z.1 z.2) (0, List.replicate n (([], 0, 0, [], []) : Bind))).bind fun d =>
  some d
noncomputable def F_laws_toBindS : Fn := ⟨[.val false (.one (.sl cBind)) false], [.val false (.one (.sl cBind)) true], fun a => laws_toBindS a⟩
def a_laws_toBindS : List (Nat × LoopAnn) := [(0, ⟨⟨[(4, false, [.dat (.int .i64)])], [(265216, .keep cBind true)]⟩,
    ⟨[], [(265216, .keep cBind true)]⟩, none⟩)]
theorem e_laws_toBindS : fnDen ⟨tis, fns_124, [], false⟩ a_laws_toBindS Tryz.f43 (codeOf Tryz.f43) [.val false (.one (.sl cBind)) false] [.val false (.one (.sl cBind)) true] = fun a => laws_toBindS a := by kernel_rfl
theorem m_laws_toBindS : Meets Tryz.prog 43 F_laws_toBindS := by
  have h := meets_of (ann := a_laws_toBindS) (ps := [.val false (.one (.sl cBind)) false]) (rs := [.val false (.one (.sl cBind)) true]) g_124 mixed Tryz.func43 (by kernel_rfl) (by kernel_rfl : Tryz.f43.body = some (codeOf Tryz.f43))
  rw [e_laws_toBindS] at h
  exact h
noncomputable def fns_43 : List (FuncId × Fn) := (43, F_laws_toBindS) :: fns_124
theorem g_43 : Good Tryz.prog ⟨tis, fns_43, [], false⟩ := g_124.cons m_laws_toBindS
noncomputable def laws_eqVec (a0 : Vec) (b1 : Vec) : Option Bool :=
  cond (a0.1 != b1.1)
    (some false)
    (cond (a0.2.1 != b1.2.1)
      (some false)
      (cond (a0.2.2.1 != b1.2.2.1)
        (some false)
        (cond (a0.2.2.2.1 != b1.2.2.2.1)
          (some false)
          (cond (a0.2.2.2.2 != b1.2.2.2.2) (some false) (some true)))))
noncomputable def F_laws_eqVec : Fn := ⟨[.val true cVec false, .val true cVec false], [.val false (.one .bool) true], fun a => laws_eqVec a.1 a.2⟩
def a_laws_eqVec : List (Nat × LoopAnn) := []
theorem e_laws_eqVec : fnDen ⟨tis, fns_43, [], false⟩ a_laws_eqVec Tryz.f323 (codeOf Tryz.f323) [.val true cVec false, .val true cVec false] [.val false (.one .bool) true] = fun a => laws_eqVec a.1 a.2 := by kernel_rfl
theorem m_laws_eqVec : Meets Tryz.prog 323 F_laws_eqVec := by
  have h := meets_of (ann := a_laws_eqVec) (ps := [.val true cVec false, .val true cVec false]) (rs := [.val false (.one .bool) true]) g_43 mixed Tryz.func323 (by kernel_rfl) (by kernel_rfl : Tryz.f323.body = some (codeOf Tryz.f323))
  rw [e_laws_eqVec] at h
  exact h
noncomputable def fns_323 : List (FuncId × Fn) := (323, F_laws_eqVec) :: fns_43
theorem g_323 : Good Tryz.prog ⟨tis, fns_323, [], false⟩ := g_43.cons m_laws_eqVec
noncomputable def laws_eqPt (a0 : Pt) (b1 : Pt) : Option Bool :=
  cond (!(a0.1 == b1.1))
    (some false)
    (cond (a0.2.1 != b1.2.1)
      (some false)
      (cond (!(a0.2.2.1 == b1.2.2.1))
        (some false)
        ((laws_eqVec a0.2.2.2 b1.2.2.2).bind fun t24 =>
        cond (!t24) (some false) (some true))))
noncomputable def F_laws_eqPt : Fn := ⟨[.val true cPt false, .val true cPt false], [.val false (.one .bool) true], fun a => laws_eqPt a.1 a.2⟩
def a_laws_eqPt : List (Nat × LoopAnn) := []
theorem e_laws_eqPt : fnDen ⟨tis, fns_323, [], false⟩ a_laws_eqPt Tryz.f245 (codeOf Tryz.f245) [.val true cPt false, .val true cPt false] [.val false (.one .bool) true] = fun a => laws_eqPt a.1 a.2 := by kernel_rfl
theorem m_laws_eqPt : Meets Tryz.prog 245 F_laws_eqPt := by
  have h := meets_of (ann := a_laws_eqPt) (ps := [.val true cPt false, .val true cPt false]) (rs := [.val false (.one .bool) true]) g_323 mixed Tryz.func245 (by kernel_rfl) (by kernel_rfl : Tryz.f245.body = some (codeOf Tryz.f245))
  rw [e_laws_eqPt] at h
  exact h
noncomputable def fns_245 : List (FuncId × Fn) := (245, F_laws_eqPt) :: fns_323
theorem g_245 : Good Tryz.prog ⟨tis, fns_245, [], false⟩ := g_323.cons m_laws_eqPt
noncomputable def laws_eqPtS_l0 (a0 : List Pt) (b1 : List Pt) (i5 : Int) : Option (Int ⊕ (Unit ⊕ Bool)) :=
  cond (decide (i5 < (a0.length : Int)))
    ((at? a0 i5).bind fun x19 =>
    (at? b1 i5).bind fun x23 =>
    (laws_eqPt x19 x23).bind fun t25 =>
    cond (!t25) (some (.inr (.inr false))) (some (.inl (w64 (i5 + 1)))))
    (some (.inr (.inl ())))
noncomputable def laws_eqPtS (a0 : List Pt) (b1 : List Pt) : Option Bool :=
  cond ((a0.length : Int) != (b1.length : Int))
    (some false)
    ((loop (fun z => laws_eqPtS_l0 a0 b1 z) 0).bind (Sum.elim (fun d =>
      some true) (fun r => some r)))
noncomputable def F_laws_eqPtS : Fn := ⟨[.val false (.one (.sl cPt)) false, .val false (.one (.sl cPt)) false], [.val false (.one .bool) true], fun a => laws_eqPtS a.1 a.2⟩
def a_laws_eqPtS : List (Nat × LoopAnn) := [(0, ⟨⟨[(5, false, [.dat (.int .i64)])], []⟩,
    ⟨[], []⟩, some ⟨[(4, false, [.dat .bool])], []⟩⟩)]
theorem e_laws_eqPtS : fnDen ⟨tis, fns_245, [], false⟩ a_laws_eqPtS Tryz.f125 (codeOf Tryz.f125) [.val false (.one (.sl cPt)) false, .val false (.one (.sl cPt)) false] [.val false (.one .bool) true] = fun a => laws_eqPtS a.1 a.2 := by kernel_rfl
theorem m_laws_eqPtS : Meets Tryz.prog 125 F_laws_eqPtS := by
  have h := meets_of (ann := a_laws_eqPtS) (ps := [.val false (.one (.sl cPt)) false, .val false (.one (.sl cPt)) false]) (rs := [.val false (.one .bool) true]) g_245 mixed Tryz.func125 (by kernel_rfl) (by kernel_rfl : Tryz.f125.body = some (codeOf Tryz.f125))
  rw [e_laws_eqPtS] at h
  exact h
noncomputable def fns_125 : List (FuncId × Fn) := (125, F_laws_eqPtS) :: fns_245
theorem g_125 : Good Tryz.prog ⟨tis, fns_125, [], false⟩ := g_245.cons m_laws_eqPtS
noncomputable def laws_eqFent (a0 : Fent) (b1 : Fent) : Option Bool :=
  cond (a0.1 != b1.1)
    (some false)
    (cond (a0.2.1 != b1.2.1)
      (some false)
      (cond (a0.2.2.1 != b1.2.2.1)
        (some false)
        (cond (a0.2.2.2.1 != b1.2.2.2.1)
          (some false)
          (cond (!(a0.2.2.2.2 == b1.2.2.2.2)) (some false) (some true)))))
noncomputable def F_laws_eqFent : Fn := ⟨[.val true cFent false, .val true cFent false], [.val false (.one .bool) true], fun a => laws_eqFent a.1 a.2⟩
def a_laws_eqFent : List (Nat × LoopAnn) := []
theorem e_laws_eqFent : fnDen ⟨tis, fns_125, [], false⟩ a_laws_eqFent Tryz.f246 (codeOf Tryz.f246) [.val true cFent false, .val true cFent false] [.val false (.one .bool) true] = fun a => laws_eqFent a.1 a.2 := by kernel_rfl
theorem m_laws_eqFent : Meets Tryz.prog 246 F_laws_eqFent := by
  have h := meets_of (ann := a_laws_eqFent) (ps := [.val true cFent false, .val true cFent false]) (rs := [.val false (.one .bool) true]) g_125 mixed Tryz.func246 (by kernel_rfl) (by kernel_rfl : Tryz.f246.body = some (codeOf Tryz.f246))
  rw [e_laws_eqFent] at h
  exact h
noncomputable def fns_246 : List (FuncId × Fn) := (246, F_laws_eqFent) :: fns_125
theorem g_246 : Good Tryz.prog ⟨tis, fns_246, [], false⟩ := g_125.cons m_laws_eqFent
noncomputable def laws_eqFentS_l0 (a0 : List Fent) (b1 : List Fent) (i5 : Int) : Option (Int ⊕ (Unit ⊕ Bool)) :=
  cond (decide (i5 < (a0.length : Int)))
    ((at? a0 i5).bind fun x19 =>
    (at? b1 i5).bind fun x23 =>
    (laws_eqFent x19 x23).bind fun t25 =>
    cond (!t25) (some (.inr (.inr false))) (some (.inl (w64 (i5 + 1)))))
    (some (.inr (.inl ())))
noncomputable def laws_eqFentS (a0 : List Fent) (b1 : List Fent) : Option Bool :=
  cond ((a0.length : Int) != (b1.length : Int))
    (some false)
    ((loop (fun z => laws_eqFentS_l0 a0 b1 z) 0).bind (Sum.elim (fun d =>
      some true) (fun r => some r)))
noncomputable def F_laws_eqFentS : Fn := ⟨[.val false (.one (.sl cFent)) false, .val false (.one (.sl cFent)) false], [.val false (.one .bool) true], fun a => laws_eqFentS a.1 a.2⟩
def a_laws_eqFentS : List (Nat × LoopAnn) := [(0, ⟨⟨[(5, false, [.dat (.int .i64)])], []⟩,
    ⟨[], []⟩, some ⟨[(4, false, [.dat .bool])], []⟩⟩)]
theorem e_laws_eqFentS : fnDen ⟨tis, fns_246, [], false⟩ a_laws_eqFentS Tryz.f126 (codeOf Tryz.f126) [.val false (.one (.sl cFent)) false, .val false (.one (.sl cFent)) false] [.val false (.one .bool) true] = fun a => laws_eqFentS a.1 a.2 := by kernel_rfl
theorem m_laws_eqFentS : Meets Tryz.prog 126 F_laws_eqFentS := by
  have h := meets_of (ann := a_laws_eqFentS) (ps := [.val false (.one (.sl cFent)) false, .val false (.one (.sl cFent)) false]) (rs := [.val false (.one .bool) true]) g_246 mixed Tryz.func126 (by kernel_rfl) (by kernel_rfl : Tryz.f126.body = some (codeOf Tryz.f126))
  rw [e_laws_eqFentS] at h
  exact h
noncomputable def fns_126 : List (FuncId × Fn) := (126, F_laws_eqFentS) :: fns_246
theorem g_126 : Good Tryz.prog ⟨tis, fns_126, [], false⟩ := g_246.cons m_laws_eqFentS
noncomputable def laws_eqVrow (a0 : Vrow) (b1 : Vrow) : Option Bool :=
  cond (a0.1 != b1.1)
    (some false)
    (cond (a0.2.1 != b1.2.1) (some false) (cond (a0.2.2 != b1.2.2) (some false) (some true)))
noncomputable def F_laws_eqVrow : Fn := ⟨[.val true cVrow false, .val true cVrow false], [.val false (.one .bool) true], fun a => laws_eqVrow a.1 a.2⟩
def a_laws_eqVrow : List (Nat × LoopAnn) := []
theorem e_laws_eqVrow : fnDen ⟨tis, fns_126, [], false⟩ a_laws_eqVrow Tryz.f324 (codeOf Tryz.f324) [.val true cVrow false, .val true cVrow false] [.val false (.one .bool) true] = fun a => laws_eqVrow a.1 a.2 := by kernel_rfl
theorem m_laws_eqVrow : Meets Tryz.prog 324 F_laws_eqVrow := by
  have h := meets_of (ann := a_laws_eqVrow) (ps := [.val true cVrow false, .val true cVrow false]) (rs := [.val false (.one .bool) true]) g_126 mixed Tryz.func324 (by kernel_rfl) (by kernel_rfl : Tryz.f324.body = some (codeOf Tryz.f324))
  rw [e_laws_eqVrow] at h
  exact h
noncomputable def fns_324 : List (FuncId × Fn) := (324, F_laws_eqVrow) :: fns_126
theorem g_324 : Good Tryz.prog ⟨tis, fns_324, [], false⟩ := g_126.cons m_laws_eqVrow
noncomputable def laws_eqVrowS_l0 (a0 : List Vrow) (b1 : List Vrow) (i5 : Int) : Option (Int ⊕ (Unit ⊕ Bool)) :=
  cond (decide (i5 < (a0.length : Int)))
    ((at? a0 i5).bind fun x19 =>
    (at? b1 i5).bind fun x23 =>
    (laws_eqVrow x19 x23).bind fun t25 =>
    cond (!t25) (some (.inr (.inr false))) (some (.inl (w64 (i5 + 1)))))
    (some (.inr (.inl ())))
noncomputable def laws_eqVrowS (a0 : List Vrow) (b1 : List Vrow) : Option Bool :=
  cond ((a0.length : Int) != (b1.length : Int))
    (some false)
    ((loop (fun z => laws_eqVrowS_l0 a0 b1 z) 0).bind (Sum.elim (fun d =>
      some true) (fun r => some r)))
noncomputable def F_laws_eqVrowS : Fn := ⟨[.val false (.one (.sl cVrow)) false, .val false (.one (.sl cVrow)) false], [.val false (.one .bool) true], fun a => laws_eqVrowS a.1 a.2⟩
def a_laws_eqVrowS : List (Nat × LoopAnn) := [(0, ⟨⟨[(5, false, [.dat (.int .i64)])], []⟩,
    ⟨[], []⟩, some ⟨[(4, false, [.dat .bool])], []⟩⟩)]
theorem e_laws_eqVrowS : fnDen ⟨tis, fns_324, [], false⟩ a_laws_eqVrowS Tryz.f247 (codeOf Tryz.f247) [.val false (.one (.sl cVrow)) false, .val false (.one (.sl cVrow)) false] [.val false (.one .bool) true] = fun a => laws_eqVrowS a.1 a.2 := by kernel_rfl
theorem m_laws_eqVrowS : Meets Tryz.prog 247 F_laws_eqVrowS := by
  have h := meets_of (ann := a_laws_eqVrowS) (ps := [.val false (.one (.sl cVrow)) false, .val false (.one (.sl cVrow)) false]) (rs := [.val false (.one .bool) true]) g_324 mixed Tryz.func247 (by kernel_rfl) (by kernel_rfl : Tryz.f247.body = some (codeOf Tryz.f247))
  rw [e_laws_eqVrowS] at h
  exact h
noncomputable def fns_247 : List (FuncId × Fn) := (247, F_laws_eqVrowS) :: fns_324
theorem g_247 : Good Tryz.prog ⟨tis, fns_247, [], false⟩ := g_324.cons m_laws_eqVrowS
noncomputable def laws_eqIntS_l0 (a0 : List Int) (b1 : List Int) (i5 : Int) : Option (Int ⊕ (Unit ⊕ Bool)) :=
  cond (decide (i5 < (a0.length : Int)))
    ((at? a0 i5).bind fun x19 =>
    (at? b1 i5).bind fun x23 =>
    cond (x19 != x23) (some (.inr (.inr false))) (some (.inl (w64 (i5 + 1)))))
    (some (.inr (.inl ())))
noncomputable def laws_eqIntS (a0 : List Int) (b1 : List Int) : Option Bool :=
  cond ((a0.length : Int) != (b1.length : Int))
    (some false)
    ((loop (fun z => laws_eqIntS_l0 a0 b1 z) 0).bind (Sum.elim (fun d =>
      some true) (fun r => some r)))
noncomputable def F_laws_eqIntS : Fn := ⟨[.val false (.one (.sl (.one (.int .i64)))) false, .val false (.one (.sl (.one (.int .i64)))) false], [.val false (.one .bool) true], fun a => laws_eqIntS a.1 a.2⟩
def a_laws_eqIntS : List (Nat × LoopAnn) := [(0, ⟨⟨[(5, false, [.dat (.int .i64)])], []⟩,
    ⟨[], []⟩, some ⟨[(4, false, [.dat .bool])], []⟩⟩)]
theorem e_laws_eqIntS : fnDen ⟨tis, fns_247, [], false⟩ a_laws_eqIntS Tryz.f248 (codeOf Tryz.f248) [.val false (.one (.sl (.one (.int .i64)))) false, .val false (.one (.sl (.one (.int .i64)))) false] [.val false (.one .bool) true] = fun a => laws_eqIntS a.1 a.2 := by kernel_rfl
theorem m_laws_eqIntS : Meets Tryz.prog 248 F_laws_eqIntS := by
  have h := meets_of (ann := a_laws_eqIntS) (ps := [.val false (.one (.sl (.one (.int .i64)))) false, .val false (.one (.sl (.one (.int .i64)))) false]) (rs := [.val false (.one .bool) true]) g_247 mixed Tryz.func248 (by kernel_rfl) (by kernel_rfl : Tryz.f248.body = some (codeOf Tryz.f248))
  rw [e_laws_eqIntS] at h
  exact h
noncomputable def fns_248 : List (FuncId × Fn) := (248, F_laws_eqIntS) :: fns_247
theorem g_248 : Good Tryz.prog ⟨tis, fns_248, [], false⟩ := g_247.cons m_laws_eqIntS
noncomputable def laws_eqVtab (a0 : Vtab) (b1 : Vtab) : Option Bool :=
  (laws_eqVrowS a0.1 b1.1).bind fun t9 =>
  cond (!t9)
    (some false)
    ((laws_eqIntS a0.2 b1.2).bind fun t15 =>
    cond (!t15) (some false) (some true))
noncomputable def F_laws_eqVtab : Fn := ⟨[.val true cVtab false, .val true cVtab false], [.val false (.one .bool) true], fun a => laws_eqVtab a.1 a.2⟩
def a_laws_eqVtab : List (Nat × LoopAnn) := []
theorem e_laws_eqVtab : fnDen ⟨tis, fns_248, [], false⟩ a_laws_eqVtab Tryz.f127 (codeOf Tryz.f127) [.val true cVtab false, .val true cVtab false] [.val false (.one .bool) true] = fun a => laws_eqVtab a.1 a.2 := by kernel_rfl
theorem m_laws_eqVtab : Meets Tryz.prog 127 F_laws_eqVtab := by
  have h := meets_of (ann := a_laws_eqVtab) (ps := [.val true cVtab false, .val true cVtab false]) (rs := [.val false (.one .bool) true]) g_248 mixed Tryz.func127 (by kernel_rfl) (by kernel_rfl : Tryz.f127.body = some (codeOf Tryz.f127))
  rw [e_laws_eqVtab] at h
  exact h
noncomputable def fns_127 : List (FuncId × Fn) := (127, F_laws_eqVtab) :: fns_248
theorem g_127 : Good Tryz.prog ⟨tis, fns_127, [], false⟩ := g_248.cons m_laws_eqVtab
noncomputable def laws_eqBridge (a0 : Bridge) (b1 : Bridge) : Option Bool :=
  cond (a0.1 != b1.1)
    (some false)
    (cond (!(a0.2.1 == b1.2.1))
      (some false)
      ((laws_eqPtS a0.2.2.1 b1.2.2.1).bind fun t19 =>
      cond (!t19)
        (some false)
        ((laws_eqFentS a0.2.2.2.1 b1.2.2.2.1).bind fun t25 =>
        cond (!t25)
          (some false)
          ((laws_eqVtab (a0.2.2.2.2.1, a0.2.2.2.2.2.1) (b1.2.2.2.2.1, b1.2.2.2.2.2.1)).bind fun t31 =>
          cond (!t31)
            (some false)
            (cond (a0.2.2.2.2.2.2.1 != b1.2.2.2.2.2.2.1)
              (some false)
              (cond (a0.2.2.2.2.2.2.2.1 != b1.2.2.2.2.2.2.2.1)
                (some false)
                (cond (a0.2.2.2.2.2.2.2.2.1 != b1.2.2.2.2.2.2.2.2.1)
                  (some false)
                  (cond (a0.2.2.2.2.2.2.2.2.2.1 != b1.2.2.2.2.2.2.2.2.2.1)
                    (some false)
                    (cond (a0.2.2.2.2.2.2.2.2.2.2 != b1.2.2.2.2.2.2.2.2.2.2) (some false) (some true))))))))))
noncomputable def F_laws_eqBridge : Fn := ⟨[.val true cBridge false, .val true cBridge false], [.val false (.one .bool) true], fun a => laws_eqBridge a.1 a.2⟩
def a_laws_eqBridge : List (Nat × LoopAnn) := []
theorem e_laws_eqBridge : fnDen ⟨tis, fns_127, [], false⟩ a_laws_eqBridge Tryz.f44 (codeOf Tryz.f44) [.val true cBridge false, .val true cBridge false] [.val false (.one .bool) true] = fun a => laws_eqBridge a.1 a.2 := by kernel_rfl
theorem m_laws_eqBridge : Meets Tryz.prog 44 F_laws_eqBridge := by
  have h := meets_of (ann := a_laws_eqBridge) (ps := [.val true cBridge false, .val true cBridge false]) (rs := [.val false (.one .bool) true]) g_127 mixed Tryz.func44 (by kernel_rfl) (by kernel_rfl : Tryz.f44.body = some (codeOf Tryz.f44))
  rw [e_laws_eqBridge] at h
  exact h
noncomputable def fns_44 : List (FuncId × Fn) := (44, F_laws_eqBridge) :: fns_127
theorem g_44 : Good Tryz.prog ⟨tis, fns_44, [], false⟩ := g_127.cons m_laws_eqBridge
noncomputable def laws_eqVal (a0 : Val) (b1 : Val) : Option Bool :=
  cond (a0.1 != b1.1)
    (some false)
    (cond (a0.2.1 != b1.2.1)
      (some false)
      (cond (!(a0.2.2.1 == b1.2.2.1))
        (some false)
        ((laws_eqIntS a0.2.2.2 b1.2.2.2).bind fun t24 =>
        cond (!t24) (some false) (some true))))
noncomputable def F_laws_eqVal : Fn := ⟨[.val true cVal false, .val true cVal false], [.val false (.one .bool) true], fun a => laws_eqVal a.1 a.2⟩
def a_laws_eqVal : List (Nat × LoopAnn) := []
theorem e_laws_eqVal : fnDen ⟨tis, fns_44, [], false⟩ a_laws_eqVal Tryz.f249 (codeOf Tryz.f249) [.val true cVal false, .val true cVal false] [.val false (.one .bool) true] = fun a => laws_eqVal a.1 a.2 := by kernel_rfl
theorem m_laws_eqVal : Meets Tryz.prog 249 F_laws_eqVal := by
  have h := meets_of (ann := a_laws_eqVal) (ps := [.val true cVal false, .val true cVal false]) (rs := [.val false (.one .bool) true]) g_44 mixed Tryz.func249 (by kernel_rfl) (by kernel_rfl : Tryz.f249.body = some (codeOf Tryz.f249))
  rw [e_laws_eqVal] at h
  exact h
noncomputable def fns_249 : List (FuncId × Fn) := (249, F_laws_eqVal) :: fns_44
theorem g_249 : Good Tryz.prog ⟨tis, fns_249, [], false⟩ := g_44.cons m_laws_eqVal
noncomputable def laws_eqBind (a0 : Bind) (b1 : Bind) : Option Bool :=
  (laws_eqIntS a0.1 b1.1).bind fun t9 =>
  cond (!t9)
    (some false)
    ((laws_eqVal a0.2 b1.2).bind fun t15 =>
    cond (!t15) (some false) (some true))
noncomputable def F_laws_eqBind : Fn := ⟨[.val true cBind false, .val true cBind false], [.val false (.one .bool) true], fun a => laws_eqBind a.1 a.2⟩
def a_laws_eqBind : List (Nat × LoopAnn) := []
theorem e_laws_eqBind : fnDen ⟨tis, fns_249, [], false⟩ a_laws_eqBind Tryz.f128 (codeOf Tryz.f128) [.val true cBind false, .val true cBind false] [.val false (.one .bool) true] = fun a => laws_eqBind a.1 a.2 := by kernel_rfl
theorem m_laws_eqBind : Meets Tryz.prog 128 F_laws_eqBind := by
  have h := meets_of (ann := a_laws_eqBind) (ps := [.val true cBind false, .val true cBind false]) (rs := [.val false (.one .bool) true]) g_249 mixed Tryz.func128 (by kernel_rfl) (by kernel_rfl : Tryz.f128.body = some (codeOf Tryz.f128))
  rw [e_laws_eqBind] at h
  exact h
noncomputable def fns_128 : List (FuncId × Fn) := (128, F_laws_eqBind) :: fns_249
theorem g_128 : Good Tryz.prog ⟨tis, fns_128, [], false⟩ := g_249.cons m_laws_eqBind
noncomputable def laws_eqBindS_l0 (a0 : List Bind) (b1 : List Bind) (i5 : Int) : Option (Int ⊕ (Unit ⊕ Bool)) :=
  cond (decide (i5 < (a0.length : Int)))
    ((at? a0 i5).bind fun x19 =>
    (at? b1 i5).bind fun x23 =>
    (laws_eqBind x19 x23).bind fun t25 =>
    cond (!t25) (some (.inr (.inr false))) (some (.inl (w64 (i5 + 1)))))
    (some (.inr (.inl ())))
noncomputable def laws_eqBindS (a0 : List Bind) (b1 : List Bind) : Option Bool :=
  cond ((a0.length : Int) != (b1.length : Int))
    (some false)
    ((loop (fun z => laws_eqBindS_l0 a0 b1 z) 0).bind (Sum.elim (fun d =>
      some true) (fun r => some r)))
noncomputable def F_laws_eqBindS : Fn := ⟨[.val false (.one (.sl cBind)) false, .val false (.one (.sl cBind)) false], [.val false (.one .bool) true], fun a => laws_eqBindS a.1 a.2⟩
def a_laws_eqBindS : List (Nat × LoopAnn) := [(0, ⟨⟨[(5, false, [.dat (.int .i64)])], []⟩,
    ⟨[], []⟩, some ⟨[(4, false, [.dat .bool])], []⟩⟩)]
theorem e_laws_eqBindS : fnDen ⟨tis, fns_128, [], false⟩ a_laws_eqBindS Tryz.f45 (codeOf Tryz.f45) [.val false (.one (.sl cBind)) false, .val false (.one (.sl cBind)) false] [.val false (.one .bool) true] = fun a => laws_eqBindS a.1 a.2 := by kernel_rfl
theorem m_laws_eqBindS : Meets Tryz.prog 45 F_laws_eqBindS := by
  have h := meets_of (ann := a_laws_eqBindS) (ps := [.val false (.one (.sl cBind)) false, .val false (.one (.sl cBind)) false]) (rs := [.val false (.one .bool) true]) g_128 mixed Tryz.func45 (by kernel_rfl) (by kernel_rfl : Tryz.f45.body = some (codeOf Tryz.f45))
  rw [e_laws_eqBindS] at h
  exact h
noncomputable def fns_45 : List (FuncId × Fn) := (45, F_laws_eqBindS) :: fns_128
theorem g_45 : Good Tryz.prog ⟨tis, fns_45, [], false⟩ := g_128.cons m_laws_eqBindS
noncomputable def laws_markText_l0 (k0_1 : Int) (out3 : List UInt8) : Option ((Int × List UInt8) ⊕ (List UInt8)) :=
  cond (decide (k0_1 > 0))
    ((cat (bytesOf [IntKind.u8.wrap (w64 (48 + (k0_1.tmod 10)))]) out3).bind fun t15 =>
    some (.inl (w64 (k0_1.tdiv 10), t15)))
    (some (.inr out3))
noncomputable def laws_markText (k0 : Int) : Option (List UInt8) :=
  cond (decide (k0 ≤ 0))
    (some [109, 48])
    ((loop (fun z => laws_markText_l0 z.1 z.2) (k0, [])).bind fun d =>
    (cat [109] d).bind fun t19 =>
    some t19)
noncomputable def F_laws_markText : Fn := ⟨[.val false (.one (.int .i64)) false], [.val false (.one .str) true], fun a => laws_markText a⟩
def a_laws_markText : List (Nat × LoopAnn) := [(0, ⟨⟨[(0, false, [.dat (.int .i64)]), (3, false, [.dat .str])], []⟩,
    ⟨[(3, false, [.dat .str])], []⟩, none⟩)]
theorem e_laws_markText : fnDen ⟨tis, fns_45, [], false⟩ a_laws_markText Tryz.f133 (codeOf Tryz.f133) [.val false (.one (.int .i64)) false] [.val false (.one .str) true] = fun a => laws_markText a := by kernel_rfl
theorem m_laws_markText : Meets Tryz.prog 133 F_laws_markText := by
  have h := meets_of (ann := a_laws_markText) (ps := [.val false (.one (.int .i64)) false]) (rs := [.val false (.one .str) true]) g_45 mixed Tryz.func133 (by kernel_rfl) (by kernel_rfl : Tryz.f133.body = some (codeOf Tryz.f133))
  rw [e_laws_markText] at h
  exact h
noncomputable def fns_133 : List (FuncId × Fn) := (133, F_laws_markText) :: fns_45
theorem g_133 : Good Tryz.prog ⟨tis, fns_133, [], false⟩ := g_45.cons m_laws_markText
noncomputable def laws_heldPtS_l0 (p0 : List Pt) (i1_1 : Int) (t5 : Int) : Option ((Int × Int) ⊕ (Int ⊕ Int)) :=
  cond (decide (t5 < (p0.length : Int)))
    ((at? p0 t5).bind fun x14 =>
    cond (!(x14.1 == ((i1_1.tmod 3) == 0)))
      (some (.inr (.inr (-1))))
      ((at? p0 t5).bind fun x25 =>
      cond (x25.2.1 != (w64 (i1_1 + 1)))
        (some (.inr (.inr (-1))))
        (let i1_2 := w64 ((w64 (i1_1 + 1)) + 1)
        (at? p0 t5).bind fun x34 =>
        cond (!(x34.2.2.1 == ((i1_2.tmod 3) == 0)))
          (some (.inr (.inr (-1))))
          ((at? p0 t5).bind fun x45 =>
          cond (x45.2.2.2.1 != (w64 (i1_2 + 1)))
            (some (.inr (.inr (-1))))
            (let i1_3 := w64 ((w64 (i1_2 + 1)) + 1)
            (at? p0 t5).bind fun x55 =>
            cond (x55.2.2.2.2.1 != i1_3)
              (some (.inr (.inr (-1))))
              ((at? p0 t5).bind fun x65 =>
              cond (x65.2.2.2.2.2.1 != (w64 (i1_3 + 1)))
                (some (.inr (.inr (-1))))
                (let i1_4 := w64 ((w64 (i1_3 + 1)) + 1)
                (at? p0 t5).bind fun x75 =>
                cond (x75.2.2.2.2.2.2.1 != i1_4)
                  (some (.inr (.inr (-1))))
                  ((at? p0 t5).bind fun x85 =>
                  cond (x85.2.2.2.2.2.2.2 != (w64 (i1_4 + 1)))
                    (some (.inr (.inr (-1))))
                    (let i1_5 := w64 ((w64 (i1_4 + 1)) + 1)
                    some (.inl (i1_5, w64 (t5 + 1))))))))))))
    (some (.inr (.inl i1_1)))
noncomputable def laws_heldPtS (p0 : List Pt) (i1 : Int) : Option Int :=
  (loop (fun z => laws_heldPtS_l0 p0 z.1 z.2) (i1, 0)).bind (Sum.elim (fun d =>
    some d) (fun r => some r))
noncomputable def F_laws_heldPtS : Fn := ⟨[.val false (.one (.sl cPt)) false, .val false (.one (.int .i64)) false], [.val false (.one (.int .i64)) true], fun a => laws_heldPtS a.1 a.2⟩
def a_laws_heldPtS : List (Nat × LoopAnn) := [(0, ⟨⟨[(1, false, [.dat (.int .i64)]), (5, false, [.dat (.int .i64)])], []⟩,
    ⟨[(1, false, [.dat (.int .i64)])], []⟩, some ⟨[(4, false, [.dat (.int .i64)])], []⟩⟩)]
theorem e_laws_heldPtS : fnDen ⟨tis, fns_133, [], false⟩ a_laws_heldPtS Tryz.f134 (codeOf Tryz.f134) [.val false (.one (.sl cPt)) false, .val false (.one (.int .i64)) false] [.val false (.one (.int .i64)) true] = fun a => laws_heldPtS a.1 a.2 := by kernel_rfl
theorem m_laws_heldPtS : Meets Tryz.prog 134 F_laws_heldPtS := by
  have h := meets_of (ann := a_laws_heldPtS) (ps := [.val false (.one (.sl cPt)) false, .val false (.one (.int .i64)) false]) (rs := [.val false (.one (.int .i64)) true]) g_133 mixed Tryz.func134 (by kernel_rfl) (by kernel_rfl : Tryz.f134.body = some (codeOf Tryz.f134))
  rw [e_laws_heldPtS] at h
  exact h
noncomputable def fns_134 : List (FuncId × Fn) := (134, F_laws_heldPtS) :: fns_133
theorem g_134 : Good Tryz.prog ⟨tis, fns_134, [], false⟩ := g_133.cons m_laws_heldPtS
noncomputable def laws_heldFentS_l0 (a0 : List Fent) (k1_1 : Int) (i5 : Int) : Option ((Int × Int) ⊕ (Int ⊕ Int)) :=
  cond (decide (i5 < (a0.length : Int)))
    ((at? a0 i5).bind fun x14 =>
    cond (x14.1 != k1_1)
      (some (.inr (.inr (-1))))
      ((at? a0 i5).bind fun x23 =>
      cond (x23.2.1 != (w64 (k1_1 + 1)))
        (some (.inr (.inr (-1))))
        (let k1_2 := w64 ((w64 (k1_1 + 1)) + 1)
        (at? a0 i5).bind fun x32 =>
        cond (x32.2.2.1 != k1_2)
          (some (.inr (.inr (-1))))
          ((at? a0 i5).bind fun x41 =>
          cond (x41.2.2.2.1 != (w64 (k1_2 + 1)))
            (some (.inr (.inr (-1))))
            (let k1_3 := w64 ((w64 (k1_2 + 1)) + 1)
            (at? a0 i5).bind fun x50 =>
            cond (!(x50.2.2.2.2 == ((k1_3.tmod 3) == 0)))
              (some (.inr (.inr (-1))))
              (some (.inl (w64 (k1_3 + 1), w64 (i5 + 1)))))))))
    (some (.inr (.inl k1_1)))
noncomputable def laws_heldFentS (a0 : List Fent) (k1 : Int) : Option Int :=
  (loop (fun z => laws_heldFentS_l0 a0 z.1 z.2) (k1, 0)).bind (Sum.elim (fun d =>
    some d) (fun r => some r))
noncomputable def F_laws_heldFentS : Fn := ⟨[.val false (.one (.sl cFent)) false, .val false (.one (.int .i64)) false], [.val false (.one (.int .i64)) true], fun a => laws_heldFentS a.1 a.2⟩
def a_laws_heldFentS : List (Nat × LoopAnn) := [(0, ⟨⟨[(1, false, [.dat (.int .i64)]), (5, false, [.dat (.int .i64)])], []⟩,
    ⟨[(1, false, [.dat (.int .i64)])], []⟩, some ⟨[(4, false, [.dat (.int .i64)])], []⟩⟩)]
theorem e_laws_heldFentS : fnDen ⟨tis, fns_134, [], false⟩ a_laws_heldFentS Tryz.f135 (codeOf Tryz.f135) [.val false (.one (.sl cFent)) false, .val false (.one (.int .i64)) false] [.val false (.one (.int .i64)) true] = fun a => laws_heldFentS a.1 a.2 := by kernel_rfl
theorem m_laws_heldFentS : Meets Tryz.prog 135 F_laws_heldFentS := by
  have h := meets_of (ann := a_laws_heldFentS) (ps := [.val false (.one (.sl cFent)) false, .val false (.one (.int .i64)) false]) (rs := [.val false (.one (.int .i64)) true]) g_134 mixed Tryz.func135 (by kernel_rfl) (by kernel_rfl : Tryz.f135.body = some (codeOf Tryz.f135))
  rw [e_laws_heldFentS] at h
  exact h
noncomputable def fns_135 : List (FuncId × Fn) := (135, F_laws_heldFentS) :: fns_134
theorem g_135 : Good Tryz.prog ⟨tis, fns_135, [], false⟩ := g_134.cons m_laws_heldFentS
noncomputable def laws_heldVrowS_l0 (a0 : List Vrow) (k1_1 : Int) (i5 : Int) : Option ((Int × Int) ⊕ (Int ⊕ Int)) :=
  cond (decide (i5 < (a0.length : Int)))
    ((at? a0 i5).bind fun x14 =>
    cond (x14.1 != k1_1)
      (some (.inr (.inr (-1))))
      ((at? a0 i5).bind fun x23 =>
      cond (x23.2.1 != (w64 (k1_1 + 1)))
        (some (.inr (.inr (-1))))
        (let k1_2 := w64 ((w64 (k1_1 + 1)) + 1)
        (at? a0 i5).bind fun x32 =>
        cond (x32.2.2 != k1_2)
          (some (.inr (.inr (-1))))
          (some (.inl (w64 (k1_2 + 1), w64 (i5 + 1)))))))
    (some (.inr (.inl k1_1)))
noncomputable def laws_heldVrowS (a0 : List Vrow) (k1 : Int) : Option Int :=
  (loop (fun z => laws_heldVrowS_l0 a0 z.1 z.2) (k1, 0)).bind (Sum.elim (fun d =>
    some d) (fun r => some r))
noncomputable def F_laws_heldVrowS : Fn := ⟨[.val false (.one (.sl cVrow)) false, .val false (.one (.int .i64)) false], [.val false (.one (.int .i64)) true], fun a => laws_heldVrowS a.1 a.2⟩
def a_laws_heldVrowS : List (Nat × LoopAnn) := [(0, ⟨⟨[(1, false, [.dat (.int .i64)]), (5, false, [.dat (.int .i64)])], []⟩,
    ⟨[(1, false, [.dat (.int .i64)])], []⟩, some ⟨[(4, false, [.dat (.int .i64)])], []⟩⟩)]
theorem e_laws_heldVrowS : fnDen ⟨tis, fns_135, [], false⟩ a_laws_heldVrowS Tryz.f251 (codeOf Tryz.f251) [.val false (.one (.sl cVrow)) false, .val false (.one (.int .i64)) false] [.val false (.one (.int .i64)) true] = fun a => laws_heldVrowS a.1 a.2 := by kernel_rfl
theorem m_laws_heldVrowS : Meets Tryz.prog 251 F_laws_heldVrowS := by
  have h := meets_of (ann := a_laws_heldVrowS) (ps := [.val false (.one (.sl cVrow)) false, .val false (.one (.int .i64)) false]) (rs := [.val false (.one (.int .i64)) true]) g_135 mixed Tryz.func251 (by kernel_rfl) (by kernel_rfl : Tryz.f251.body = some (codeOf Tryz.f251))
  rw [e_laws_heldVrowS] at h
  exact h
noncomputable def fns_251 : List (FuncId × Fn) := (251, F_laws_heldVrowS) :: fns_135
theorem g_251 : Good Tryz.prog ⟨tis, fns_251, [], false⟩ := g_135.cons m_laws_heldVrowS
noncomputable def laws_heldIntS_l0 (a0 : List Int) (k1_1 : Int) (i5 : Int) : Option ((Int × Int) ⊕ (Int ⊕ Int)) :=
  cond (decide (i5 < (a0.length : Int)))
    ((at? a0 i5).bind fun x14 =>
    cond (x14 != k1_1)
      (some (.inr (.inr (-1))))
      (some (.inl (w64 (k1_1 + 1), w64 (i5 + 1)))))
    (some (.inr (.inl k1_1)))
noncomputable def laws_heldIntS (a0 : List Int) (k1 : Int) : Option Int :=
  (loop (fun z => laws_heldIntS_l0 a0 z.1 z.2) (k1, 0)).bind (Sum.elim (fun d =>
    some d) (fun r => some r))
noncomputable def F_laws_heldIntS : Fn := ⟨[.val false (.one (.sl (.one (.int .i64)))) false, .val false (.one (.int .i64)) false], [.val false (.one (.int .i64)) true], fun a => laws_heldIntS a.1 a.2⟩
def a_laws_heldIntS : List (Nat × LoopAnn) := [(0, ⟨⟨[(1, false, [.dat (.int .i64)]), (5, false, [.dat (.int .i64)])], []⟩,
    ⟨[(1, false, [.dat (.int .i64)])], []⟩, some ⟨[(4, false, [.dat (.int .i64)])], []⟩⟩)]
theorem e_laws_heldIntS : fnDen ⟨tis, fns_251, [], false⟩ a_laws_heldIntS Tryz.f252 (codeOf Tryz.f252) [.val false (.one (.sl (.one (.int .i64)))) false, .val false (.one (.int .i64)) false] [.val false (.one (.int .i64)) true] = fun a => laws_heldIntS a.1 a.2 := by kernel_rfl
theorem m_laws_heldIntS : Meets Tryz.prog 252 F_laws_heldIntS := by
  have h := meets_of (ann := a_laws_heldIntS) (ps := [.val false (.one (.sl (.one (.int .i64)))) false, .val false (.one (.int .i64)) false]) (rs := [.val false (.one (.int .i64)) true]) g_251 mixed Tryz.func252 (by kernel_rfl) (by kernel_rfl : Tryz.f252.body = some (codeOf Tryz.f252))
  rw [e_laws_heldIntS] at h
  exact h
noncomputable def fns_252 : List (FuncId × Fn) := (252, F_laws_heldIntS) :: fns_251
theorem g_252 : Good Tryz.prog ⟨tis, fns_252, [], false⟩ := g_251.cons m_laws_heldIntS
noncomputable def laws_heldVtab (a0 : Vtab) (k1 : Int) : Option Int :=
  (laws_heldVrowS a0.1 k1).bind fun t8 =>
  cond (decide (t8 < 0))
    (some (-1))
    ((laws_heldIntS a0.2 t8).bind fun t14 =>
    cond (decide (t14 < 0)) (some (-1)) (some t14))
noncomputable def F_laws_heldVtab : Fn := ⟨[.val true cVtab false, .val false (.one (.int .i64)) false], [.val false (.one (.int .i64)) true], fun a => laws_heldVtab a.1 a.2⟩
def a_laws_heldVtab : List (Nat × LoopAnn) := []
theorem e_laws_heldVtab : fnDen ⟨tis, fns_252, [], false⟩ a_laws_heldVtab Tryz.f136 (codeOf Tryz.f136) [.val true cVtab false, .val false (.one (.int .i64)) false] [.val false (.one (.int .i64)) true] = fun a => laws_heldVtab a.1 a.2 := by kernel_rfl
theorem m_laws_heldVtab : Meets Tryz.prog 136 F_laws_heldVtab := by
  have h := meets_of (ann := a_laws_heldVtab) (ps := [.val true cVtab false, .val false (.one (.int .i64)) false]) (rs := [.val false (.one (.int .i64)) true]) g_252 mixed Tryz.func136 (by kernel_rfl) (by kernel_rfl : Tryz.f136.body = some (codeOf Tryz.f136))
  rw [e_laws_heldVtab] at h
  exact h
noncomputable def fns_136 : List (FuncId × Fn) := (136, F_laws_heldVtab) :: fns_252
theorem g_136 : Good Tryz.prog ⟨tis, fns_136, [], false⟩ := g_252.cons m_laws_heldVtab
noncomputable def laws_heldBridge (a0 : Bridge) (k1 : Int) : Option Int :=
  (laws_heldPtS a0.2.2.1 k1).bind fun t8 =>
  cond (decide (t8 < 0))
    (some (-1))
    ((laws_heldFentS a0.2.2.2.1 t8).bind fun t14 =>
    cond (decide (t14 < 0))
      (some (-1))
      ((laws_heldVtab (a0.2.2.2.2.1, a0.2.2.2.2.2.1) t14).bind fun t20 =>
      cond (decide (t20 < 0)) (some (-1)) (some t20)))
noncomputable def F_laws_heldBridge : Fn := ⟨[.val true cBridge false, .val false (.one (.int .i64)) false], [.val false (.one (.int .i64)) true], fun a => laws_heldBridge a.1 a.2⟩
def a_laws_heldBridge : List (Nat × LoopAnn) := []
theorem e_laws_heldBridge : fnDen ⟨tis, fns_136, [], false⟩ a_laws_heldBridge Tryz.f48 (codeOf Tryz.f48) [.val true cBridge false, .val false (.one (.int .i64)) false] [.val false (.one (.int .i64)) true] = fun a => laws_heldBridge a.1 a.2 := by kernel_rfl
theorem m_laws_heldBridge : Meets Tryz.prog 48 F_laws_heldBridge := by
  have h := meets_of (ann := a_laws_heldBridge) (ps := [.val true cBridge false, .val false (.one (.int .i64)) false]) (rs := [.val false (.one (.int .i64)) true]) g_136 mixed Tryz.func48 (by kernel_rfl) (by kernel_rfl : Tryz.f48.body = some (codeOf Tryz.f48))
  rw [e_laws_heldBridge] at h
  exact h
noncomputable def fns_48 : List (FuncId × Fn) := (48, F_laws_heldBridge) :: fns_136
theorem g_48 : Good Tryz.prog ⟨tis, fns_48, [], false⟩ := g_136.cons m_laws_heldBridge
noncomputable def laws_markPtS_l0 (i1 : Int) (t5 : Int) (l : List Pt) : Option ((Int × Int × List Pt) ⊕ (Int × List Pt)) :=
  cond (decide (t5 < (l.length : Int)))
    ((ix l.length t5).bind fun j17 =>
    (l[j17]?).bind fun x =>
    let ls : List Pt := l.set j17 ((i1.tmod 3) == 0, x.2.1, x.2.2.1, x.2.2.2.1, x.2.2.2.2.1, x.2.2.2.2.2.1, x.2.2.2.2.2.2.1, x.2.2.2.2.2.2.2)
    (ix ls.length t5).bind fun j24 =>
    (ls[j24]?).bind fun x_1 =>
    let ls_1 : List Pt := ls.set j24 (x_1.1, w64 (i1 + 1), x_1.2.2.1, x_1.2.2.2.1, x_1.2.2.2.2.1, x_1.2.2.2.2.2.1, x_1.2.2.2.2.2.2.1, x_1.2.2.2.2.2.2.2)
    (ix ls_1.length t5).bind fun j33 =>
    (ls_1[j33]?).bind fun x_2 =>
    let ls_2 : List Pt := ls_1.set j33 (x_2.1, x_2.2.1, ((w64 ((w64 (i1 + 1)) + 1)).tmod 3) == 0, x_2.2.2.2.1, x_2.2.2.2.2.1, x_2.2.2.2.2.2.1, x_2.2.2.2.2.2.2.1, x_2.2.2.2.2.2.2.2)
    let i1_1 := w64 ((w64 ((w64 (i1 + 1)) + 1)) + 1)
    (ix ls_2.length t5).bind fun j40 =>
    (ls_2[j40]?).bind fun x_3 =>
    let ls_3 : List Pt := ls_2.set j40 (x_3.1, x_3.2.1, x_3.2.2.1, i1_1, x_3.2.2.2.2.1, x_3.2.2.2.2.2.1, x_3.2.2.2.2.2.2.1, x_3.2.2.2.2.2.2.2)
    (ix ls_3.length t5).bind fun j48 =>
    (ls_3[j48]?).bind fun x_4 =>
    let ls_4 : List Pt := ls_3.set j48 (x_4.1, x_4.2.1, x_4.2.2.1, x_4.2.2.2.1, w64 (i1_1 + 1), x_4.2.2.2.2.2.1, x_4.2.2.2.2.2.2.1, x_4.2.2.2.2.2.2.2)
    let i1_2 := w64 ((w64 (i1_1 + 1)) + 1)
    (ix ls_4.length t5).bind fun j56 =>
    (ls_4[j56]?).bind fun x_5 =>
    let ls_5 : List Pt := ls_4.set j56 (x_5.1, x_5.2.1, x_5.2.2.1, x_5.2.2.2.1, x_5.2.2.2.2.1, i1_2, x_5.2.2.2.2.2.2.1, x_5.2.2.2.2.2.2.2)
    (ix ls_5.length t5).bind fun j64 =>
    (ls_5[j64]?).bind fun x_6 =>
    let ls_6 : List Pt := ls_5.set j64 (x_6.1, x_6.2.1, x_6.2.2.1, x_6.2.2.2.1, x_6.2.2.2.2.1, x_6.2.2.2.2.2.1, w64 (i1_2 + 1), x_6.2.2.2.2.2.2.2)
    let i1_3 := w64 ((w64 (i1_2 + 1)) + 1)
    (ix ls_6.length t5).bind fun j72 =>
    (ls_6[j72]?).bind fun x_7 =>
    let ls_7 : List Pt := ls_6.set j72 (x_7.1, x_7.2.1, x_7.2.2.1, x_7.2.2.2.1, x_7.2.2.2.2.1, x_7.2.2.2.2.2.1, x_7.2.2.2.2.2.2.1, i1_3)
    some (.inl (w64 (i1_3 + 1), w64 (t5 + 1), ls_7)))
    (some (.inr (i1, l)))
noncomputable def laws_markPtS (a0 : List Pt) (k1 : Int) : Option ((List Pt) × Int) :=
  (loop (fun z => laws_markPtS_l0 z.1 z.2.1 z.2.2) (k1, 0, a0)).bind fun d =>
  some (d.2, d.1)
theorem gt_0 : Good Tryz.prog ⟨tis, fns_48, [], true⟩ := g_48.trees marks_nil
noncomputable def K_laws_markPtS : MFn := ⟨false, (.one (.sl cPt)), fun a k => laws_markPtS a k⟩
def a_laws_markPtS : List (Nat × LoopAnn) := [(0, ⟨⟨[(1, false, [.dat (.int .i64)]), (5, false, [.dat (.int .i64)])], [(1, .tree cPt)]⟩,
    ⟨[(1, false, [.dat (.int .i64)])], [(1, .tree cPt)]⟩, none⟩)]
theorem e_laws_markPtS : markDen ⟨tis, fns_48, [], true⟩ a_laws_markPtS Tryz.f129 (codeOf Tryz.f129) false (.one (.sl cPt)) = fun a k => laws_markPtS a k := by kernel_rfl
theorem k_laws_markPtS : Marks Tryz.prog 129 K_laws_markPtS := by
  have h := marks_of (ann := a_laws_markPtS) (agg := false) (cs := (.one (.sl cPt))) gt_0 mixed Tryz.func129 (by kernel_rfl) (by kernel_rfl : Tryz.f129.body = some (codeOf Tryz.f129))
  rw [e_laws_markPtS] at h
  exact h
noncomputable def marks_129 : List (FuncId × MFn) := (129, K_laws_markPtS) :: []
theorem mk_129 : ∀ f M, find marks_129 f = some M → Marks Tryz.prog f M := marks_cons marks_nil k_laws_markPtS
theorem gt_129 : Good Tryz.prog ⟨tis, fns_48, marks_129, true⟩ := g_48.trees mk_129
noncomputable def laws_markFentS_l0 (k1_1 : Int) (i5 : Int) (l : List Fent) : Option ((Int × Int × List Fent) ⊕ (Int × List Fent)) :=
  cond (decide (i5 < (l.length : Int)))
    ((ix l.length i5).bind fun j15 =>
    (l[j15]?).bind fun x =>
    let ls : List Fent := l.set j15 (k1_1, x.2.1, x.2.2.1, x.2.2.2.1, x.2.2.2.2)
    (ix ls.length i5).bind fun j22 =>
    (ls[j22]?).bind fun x_1 =>
    let ls_1 : List Fent := ls.set j22 (x_1.1, w64 (k1_1 + 1), x_1.2.2.1, x_1.2.2.2.1, x_1.2.2.2.2)
    let k1_2 := w64 ((w64 (k1_1 + 1)) + 1)
    (ix ls_1.length i5).bind fun j29 =>
    (ls_1[j29]?).bind fun x_2 =>
    let ls_2 : List Fent := ls_1.set j29 (x_2.1, x_2.2.1, k1_2, x_2.2.2.2.1, x_2.2.2.2.2)
    (ix ls_2.length i5).bind fun j36 =>
    (ls_2[j36]?).bind fun x_3 =>
    let ls_3 : List Fent := ls_2.set j36 (x_3.1, x_3.2.1, x_3.2.2.1, w64 (k1_2 + 1), x_3.2.2.2.2)
    let k1_3 := w64 ((w64 (k1_2 + 1)) + 1)
    (ix ls_3.length i5).bind fun j45 =>
    (ls_3[j45]?).bind fun x_4 =>
    let ls_4 : List Fent := ls_3.set j45 (x_4.1, x_4.2.1, x_4.2.2.1, x_4.2.2.2.1, (k1_3.tmod 3) == 0)
    some (.inl (w64 (k1_3 + 1), w64 (i5 + 1), ls_4)))
    (some (.inr (k1_1, l)))
noncomputable def laws_markFentS (a0 : List Fent) (k1 : Int) : Option ((List Fent) × Int) :=
  (loop (fun z => laws_markFentS_l0 z.1 z.2.1 z.2.2) (k1, 0, a0)).bind fun d =>
  some (d.2, d.1)
noncomputable def K_laws_markFentS : MFn := ⟨false, (.one (.sl cFent)), fun a k => laws_markFentS a k⟩
def a_laws_markFentS : List (Nat × LoopAnn) := [(0, ⟨⟨[(1, false, [.dat (.int .i64)]), (5, false, [.dat (.int .i64)])], [(1, .tree cFent)]⟩,
    ⟨[(1, false, [.dat (.int .i64)])], [(1, .tree cFent)]⟩, none⟩)]
theorem e_laws_markFentS : markDen ⟨tis, fns_48, marks_129, true⟩ a_laws_markFentS Tryz.f130 (codeOf Tryz.f130) false (.one (.sl cFent)) = fun a k => laws_markFentS a k := by kernel_rfl
theorem k_laws_markFentS : Marks Tryz.prog 130 K_laws_markFentS := by
  have h := marks_of (ann := a_laws_markFentS) (agg := false) (cs := (.one (.sl cFent))) gt_129 mixed Tryz.func130 (by kernel_rfl) (by kernel_rfl : Tryz.f130.body = some (codeOf Tryz.f130))
  rw [e_laws_markFentS] at h
  exact h
noncomputable def marks_130 : List (FuncId × MFn) := (130, K_laws_markFentS) :: marks_129
theorem mk_130 : ∀ f M, find marks_130 f = some M → Marks Tryz.prog f M := marks_cons mk_129 k_laws_markFentS
theorem gt_130 : Good Tryz.prog ⟨tis, fns_48, marks_130, true⟩ := g_48.trees mk_130
noncomputable def laws_markIntS_l0 (k1_1 : Int) (i5 : Int) (l : List Int) : Option ((Int × Int × List Int) ⊕ (Int × List Int)) :=
  cond (decide (i5 < (l.length : Int)))
    ((ix l.length i5).bind fun j15 =>
    (l[j15]?).bind fun x =>
    let ls : List Int := l.set j15 k1_1
    some (.inl (w64 (k1_1 + 1), w64 (i5 + 1), ls)))
    (some (.inr (k1_1, l)))
noncomputable def laws_markIntS (a0 : List Int) (k1 : Int) : Option ((List Int) × Int) :=
  (loop (fun z => laws_markIntS_l0 z.1 z.2.1 z.2.2) (k1, 0, a0)).bind fun d =>
  some (d.2, d.1)
noncomputable def K_laws_markIntS : MFn := ⟨false, (.one (.sl (.one (.int .i64)))), fun a k => laws_markIntS a k⟩
def a_laws_markIntS : List (Nat × LoopAnn) := [(0, ⟨⟨[(1, false, [.dat (.int .i64)]), (5, false, [.dat (.int .i64)])], [(1, .tree (.one (.int .i64)))]⟩,
    ⟨[(1, false, [.dat (.int .i64)])], [(1, .tree (.one (.int .i64)))]⟩, none⟩)]
theorem e_laws_markIntS : markDen ⟨tis, fns_48, marks_130, true⟩ a_laws_markIntS Tryz.f132 (codeOf Tryz.f132) false (.one (.sl (.one (.int .i64)))) = fun a k => laws_markIntS a k := by kernel_rfl
theorem k_laws_markIntS : Marks Tryz.prog 132 K_laws_markIntS := by
  have h := marks_of (ann := a_laws_markIntS) (agg := false) (cs := (.one (.sl (.one (.int .i64))))) gt_130 mixed Tryz.func132 (by kernel_rfl) (by kernel_rfl : Tryz.f132.body = some (codeOf Tryz.f132))
  rw [e_laws_markIntS] at h
  exact h
noncomputable def marks_132 : List (FuncId × MFn) := (132, K_laws_markIntS) :: marks_130
theorem mk_132 : ∀ f M, find marks_132 f = some M → Marks Tryz.prog f M := marks_cons mk_130 k_laws_markIntS
theorem gt_132 : Good Tryz.prog ⟨tis, fns_48, marks_132, true⟩ := g_48.trees mk_132
noncomputable def laws_markVrowS_l0 (k1_1 : Int) (i5 : Int) (l : List Vrow) : Option ((Int × Int × List Vrow) ⊕ (Int × List Vrow)) :=
  cond (decide (i5 < (l.length : Int)))
    ((ix l.length i5).bind fun j15 =>
    (l[j15]?).bind fun x =>
    let ls : List Vrow := l.set j15 (k1_1, x.2.1, x.2.2)
    (ix ls.length i5).bind fun j22 =>
    (ls[j22]?).bind fun x_1 =>
    let ls_1 : List Vrow := ls.set j22 (x_1.1, w64 (k1_1 + 1), x_1.2.2)
    let k1_2 := w64 ((w64 (k1_1 + 1)) + 1)
    (ix ls_1.length i5).bind fun j29 =>
    (ls_1[j29]?).bind fun x_2 =>
    let ls_2 : List Vrow := ls_1.set j29 (x_2.1, x_2.2.1, k1_2)
    some (.inl (w64 (k1_2 + 1), w64 (i5 + 1), ls_2)))
    (some (.inr (k1_1, l)))
noncomputable def laws_markVrowS (a0 : List Vrow) (k1 : Int) : Option ((List Vrow) × Int) :=
  (loop (fun z => laws_markVrowS_l0 z.1 z.2.1 z.2.2) (k1, 0, a0)).bind fun d =>
  some (d.2, d.1)
noncomputable def K_laws_markVrowS : MFn := ⟨false, (.one (.sl cVrow)), fun a k => laws_markVrowS a k⟩
def a_laws_markVrowS : List (Nat × LoopAnn) := [(0, ⟨⟨[(1, false, [.dat (.int .i64)]), (5, false, [.dat (.int .i64)])], [(1, .tree cVrow)]⟩,
    ⟨[(1, false, [.dat (.int .i64)])], [(1, .tree cVrow)]⟩, none⟩)]
theorem e_laws_markVrowS : markDen ⟨tis, fns_48, marks_132, true⟩ a_laws_markVrowS Tryz.f250 (codeOf Tryz.f250) false (.one (.sl cVrow)) = fun a k => laws_markVrowS a k := by kernel_rfl
theorem k_laws_markVrowS : Marks Tryz.prog 250 K_laws_markVrowS := by
  have h := marks_of (ann := a_laws_markVrowS) (agg := false) (cs := (.one (.sl cVrow))) gt_132 mixed Tryz.func250 (by kernel_rfl) (by kernel_rfl : Tryz.f250.body = some (codeOf Tryz.f250))
  rw [e_laws_markVrowS] at h
  exact h
noncomputable def marks_250 : List (FuncId × MFn) := (250, K_laws_markVrowS) :: marks_132
theorem mk_250 : ∀ f M, find marks_250 f = some M → Marks Tryz.prog f M := marks_cons mk_132 k_laws_markVrowS
theorem gt_250 : Good Tryz.prog ⟨tis, fns_48, marks_250, true⟩ := g_48.trees mk_250
noncomputable def laws_markVtab (a0 : Vtab) (k1 : Int) : Option (Vtab × Int) :=
  (laws_markVrowS a0.1 k1).bind fun z =>
  (laws_markIntS a0.2 z.2).bind fun z_1 =>
  some ((z.1, z_1.1), z_1.2)
noncomputable def K_laws_markVtab : MFn := ⟨true, cVtab, fun a k => laws_markVtab a k⟩
def a_laws_markVtab : List (Nat × LoopAnn) := []
theorem e_laws_markVtab : markDen ⟨tis, fns_48, marks_250, true⟩ a_laws_markVtab Tryz.f131 (codeOf Tryz.f131) true cVtab = fun a k => laws_markVtab a k := by kernel_rfl
theorem k_laws_markVtab : Marks Tryz.prog 131 K_laws_markVtab := by
  have h := marks_of (ann := a_laws_markVtab) (agg := true) (cs := cVtab) gt_250 mixed Tryz.func131 (by kernel_rfl) (by kernel_rfl : Tryz.f131.body = some (codeOf Tryz.f131))
  rw [e_laws_markVtab] at h
  exact h
noncomputable def marks_131 : List (FuncId × MFn) := (131, K_laws_markVtab) :: marks_250
theorem mk_131 : ∀ f M, find marks_131 f = some M → Marks Tryz.prog f M := marks_cons mk_250 k_laws_markVtab
theorem gt_131 : Good Tryz.prog ⟨tis, fns_48, marks_131, true⟩ := g_48.trees mk_131
noncomputable def laws_markBridge (a0 : Bridge) (k1 : Int) : Option (Bridge × Int) :=
  (laws_markPtS a0.2.2.1 k1).bind fun z =>
  (laws_markFentS a0.2.2.2.1 z.2).bind fun z_1 =>
  (laws_markVtab (a0.2.2.2.2.1, a0.2.2.2.2.2.1) z_1.2).bind fun z_2 =>
  some ((a0.1, a0.2.1, z.1, z_1.1, z_2.1.1, z_2.1.2, a0.2.2.2.2.2.2.1, a0.2.2.2.2.2.2.2.1, a0.2.2.2.2.2.2.2.2.1, a0.2.2.2.2.2.2.2.2.2.1, a0.2.2.2.2.2.2.2.2.2.2), z_2.2)
noncomputable def K_laws_markBridge : MFn := ⟨true, cBridge, fun a k => laws_markBridge a k⟩
def a_laws_markBridge : List (Nat × LoopAnn) := []
theorem e_laws_markBridge : markDen ⟨tis, fns_48, marks_131, true⟩ a_laws_markBridge Tryz.f46 (codeOf Tryz.f46) true cBridge = fun a k => laws_markBridge a k := by kernel_rfl
theorem k_laws_markBridge : Marks Tryz.prog 46 K_laws_markBridge := by
  have h := marks_of (ann := a_laws_markBridge) (agg := true) (cs := cBridge) gt_131 mixed Tryz.func46 (by kernel_rfl) (by kernel_rfl : Tryz.f46.body = some (codeOf Tryz.f46))
  rw [e_laws_markBridge] at h
  exact h
noncomputable def marks_46 : List (FuncId × MFn) := (46, K_laws_markBridge) :: marks_131
theorem mk_46 : ∀ f M, find marks_46 f = some M → Marks Tryz.prog f M := marks_cons mk_131 k_laws_markBridge
theorem gt_46 : Good Tryz.prog ⟨tis, fns_48, marks_46, true⟩ := g_48.trees mk_46
noncomputable def laws_markBindS_l0 (k1_1 : Int) (i5 : Int) (l : List Bind) : Option ((Int × Int × List Bind) ⊕ (Int × List Bind)) :=
  cond (decide (i5 < (l.length : Int)))
    ((ix l.length i5).bind fun j14 =>
    (l[j14]?).bind fun x16 =>
    (l[j14]?).bind fun x =>
    (laws_markIntS x.1 k1_1).bind fun z =>
    let ls : List Bind := l.set j14 (z.1, x.2.1, x.2.2.1, x.2.2.2.1, x.2.2.2.2)
    (ix ls.length i5).bind fun j22 =>
    (ls[j22]?).bind fun x_1 =>
    let ls_1 : List Bind := ls.set j22 (x_1.1, z.2, x_1.2.2.1, x_1.2.2.2.1, x_1.2.2.2.2)
    (ix ls_1.length i5).bind fun j30 =>
    (ls_1[j30]?).bind fun x_2 =>
    let ls_2 : List Bind := ls_1.set j30 (x_2.1, x_2.2.1, w64 (z.2 + 1), x_2.2.2.2.1, x_2.2.2.2.2)
    let k1_2 := w64 ((w64 (z.2 + 1)) + 1)
    (laws_markText k1_2).bind fun t38 =>
    (ix ls_2.length i5).bind fun j39 =>
    (ls_2[j39]?).bind fun x_3 =>
    let ls_3 : List Bind := ls_2.set j39 (x_3.1, x_3.2.1, x_3.2.2.1, t38, x_3.2.2.2.2)
    (ix ls_3.length i5).bind fun j46 =>
    (ls_3[j46]?).bind fun x49 =>
    (ls_3[j46]?).bind fun x_4 =>
    (laws_markIntS x_4.2.2.2.2 (w64 (k1_2 + 1))).bind fun z_1 =>
    let ls_4 : List Bind := ls_3.set j46 (x_4.1, x_4.2.1, x_4.2.2.1, x_4.2.2.2.1, z_1.1)
    some (.inl (z_1.2, w64 (i5 + 1), ls_4)))
    (some (.inr (k1_1, l)))
noncomputable def laws_markBindS (a0 : List Bind) (k1 : Int) : Option ((List Bind) × Int) :=
  (loop (fun z => laws_markBindS_l0 z.1 z.2.1 z.2.2) (k1, 0, a0)).bind fun d =>
  some (d.2, d.1)
noncomputable def K_laws_markBindS : MFn := ⟨false, (.one (.sl cBind)), fun a k => laws_markBindS a k⟩
def a_laws_markBindS : List (Nat × LoopAnn) := [(0, ⟨⟨[(1, false, [.dat (.int .i64)]), (5, false, [.dat (.int .i64)])], [(1, .tree cBind)]⟩,
    ⟨[(1, false, [.dat (.int .i64)])], [(1, .tree cBind)]⟩, none⟩)]
theorem e_laws_markBindS : markDen ⟨tis, fns_48, marks_46, true⟩ a_laws_markBindS Tryz.f47 (codeOf Tryz.f47) false (.one (.sl cBind)) = fun a k => laws_markBindS a k := by kernel_rfl
theorem k_laws_markBindS : Marks Tryz.prog 47 K_laws_markBindS := by
  have h := marks_of (ann := a_laws_markBindS) (agg := false) (cs := (.one (.sl cBind))) gt_46 mixed Tryz.func47 (by kernel_rfl) (by kernel_rfl : Tryz.f47.body = some (codeOf Tryz.f47))
  rw [e_laws_markBindS] at h
  exact h
noncomputable def marks_47 : List (FuncId × MFn) := (47, K_laws_markBindS) :: marks_46
theorem mk_47 : ∀ f M, find marks_47 f = some M → Marks Tryz.prog f M := marks_cons mk_46 k_laws_markBindS
theorem gt_47 : Good Tryz.prog ⟨tis, fns_48, marks_47, true⟩ := g_48.trees mk_47
noncomputable def laws_FnExactSetAll (p0 : Bridge) (i1 : List Bind) : Option Bool :=
  (laws_szBridge p0 1048576).bind fun t22 =>
  cond (decide (t22 < 0))
    (some true)
    ((laws_szBindS i1 t22).bind fun t27 =>
    cond (decide (t27 < 0))
      (some true)
      ((laws_toBridge p0).bind fun t32 =>
      (laws_toBindS i1).bind fun t34 =>
      (spec_SetAll t32 t34).bind fun t35 =>
      (laws_toBridge p0).bind fun t40 =>
      (laws_toBindS i1).bind fun t42 =>
      (impl_SetAll t40 t42).bind fun t46 =>
      (laws_eqBridge t46.1 t35.1).bind fun t52 =>
      (cond (!t52) (some true) (some (t46.2.1 != t35.2.1))).bind fun t58 =>
      (cond t58 (some true) (some (t46.2.2 != t35.2.2))).bind fun t63 =>
      cond t63
        (some false)
        ((laws_toBridge p0).bind fun t66 =>
        (laws_eqBridge t40 t66).bind fun t67 =>
        cond (!t67)
          (some false)
          ((laws_toBindS i1).bind fun t71 =>
          (laws_eqBindS t42 t71).bind fun t72 =>
          cond (!t72)
            (some false)
            ((laws_markBridge t40 1).bind fun z =>
            (laws_markBindS t42 z.2).bind fun z_1 =>
            (cond (decide (z_1.2 < 0))
              (some true)
              ((laws_eqBridge t46.1 t35.1).bind fun t85 =>
              some (!t85))).bind fun t87 =>
            (cond t87 (some true) (some (t46.2.1 != t35.2.1))).bind fun t92 =>
            (cond t92 (some true) (some (t46.2.2 != t35.2.2))).bind fun t97 =>
            cond t97
              (some false)
              ((laws_markBridge t46.1 1).bind fun z_2 =>
              (laws_heldBridge (t46.1.1, t46.1.2.1, z_2.1.2.2.1, z_2.1.2.2.2.1, z_2.1.2.2.2.2.1, z_2.1.2.2.2.2.2.1, t46.1.2.2.2.2.2.2.1, t46.1.2.2.2.2.2.2.2.1, t46.1.2.2.2.2.2.2.2.2.1, t46.1.2.2.2.2.2.2.2.2.2.1, t46.1.2.2.2.2.2.2.2.2.2.2) 1).bind fun t103 =>
              cond (decide (t103 < 0))
                (some false)
                (cond (t103 != z_2.2)
                  (some false)
                  ((laws_toBridge p0).bind fun t111 =>
                  (laws_toBindS i1).bind fun t113 =>
                  (impl_SetAll t111 t113).bind fun t114 =>
                  (laws_eqBridge t114.1 t35.1).bind fun t120 =>
                  (cond (!t120) (some true) (some (t114.2.1 != t35.2.1))).bind fun t126 =>
                  (cond t126 (some true) (some (t114.2.2 != t35.2.2))).bind fun t131 =>
                  cond t131
                    (some false)
                    ((laws_heldBridge (t46.1.1, t46.1.2.1, z_2.1.2.2.1, z_2.1.2.2.2.1, z_2.1.2.2.2.2.1, z_2.1.2.2.2.2.2.1, t46.1.2.2.2.2.2.2.1, t46.1.2.2.2.2.2.2.2.1, t46.1.2.2.2.2.2.2.2.2.1, t46.1.2.2.2.2.2.2.2.2.2.1, t46.1.2.2.2.2.2.2.2.2.2.2) 1).bind fun t134 =>
                    cond (decide (t134 < 0)) (some false) (cond (t134 != z_2.2) (some false) (some true)))))))))))
noncomputable def F_laws_FnExactSetAll : Fn := ⟨[.val true cBridge false, .val false (.one (.sl cBind)) false], [.val false (.one .bool) true], fun a => laws_FnExactSetAll a.1 a.2⟩
def a_laws_FnExactSetAll : List (Nat × LoopAnn) := []
theorem e_laws_FnExactSetAll : fnDen ⟨tis, fns_48, marks_47, true⟩ a_laws_FnExactSetAll Tryz.f7 (codeOf Tryz.f7) [.val true cBridge false, .val false (.one (.sl cBind)) false] [.val false (.one .bool) true] = fun a => laws_FnExactSetAll a.1 a.2 := by kernel_rfl
theorem m_laws_FnExactSetAll : Meets Tryz.prog 7 F_laws_FnExactSetAll := by
  have h := meets_of (ann := a_laws_FnExactSetAll) (ps := [.val true cBridge false, .val false (.one (.sl cBind)) false]) (rs := [.val false (.one .bool) true]) gt_47 mixed Tryz.func7 (by kernel_rfl) (by kernel_rfl : Tryz.f7.body = some (codeOf Tryz.f7))
  rw [e_laws_FnExactSetAll] at h
  exact h
end Go.V.W
