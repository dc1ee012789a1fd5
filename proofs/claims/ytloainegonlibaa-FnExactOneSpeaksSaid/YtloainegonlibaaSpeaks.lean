/- The law FnExactOneSpeaks: part of the proof that for every input it returns true. No condition. -/
import Derived.Test.YtloainegonlibaaV3
import Derived.Test.YtloainegonlibaaProg
import Derived.Test.YtloainegonlibaaChecked
import Derived.KernelRfl
namespace Go.V.W
open Go.Proofs
set_option linter.unusedVariables false
@[reducible] def cVec : Cs := .cons (.int .i64) (.cons (.int .i64) (.cons (.int .i64) (.cons (.int .i64) (.one (.int .i64)))))
@[reducible] def cPt : Cs := .cons .bool (.cons (.int .i64) (.cons .bool (.cons (.int .i64) (.cons (.int .i64) (.cons (.int .i64) (.cons (.int .i64) (.one (.int .i64))))))))
@[reducible] def cFent : Cs := .cons (.int .i64) (.cons (.int .i64) (.cons (.int .i64) (.cons (.int .i64) (.one .bool))))
@[reducible] def cVrow : Cs := .cons (.int .i64) (.cons (.int .i64) (.one (.int .i64)))
@[reducible] def cVtab : Cs := .cons (.sl cVrow) (.one (.sl (.one (.int .i64))))
@[reducible] def cBridge : Cs := .cons (.int .i64) (.cons .str (.cons (.sl cPt) (.cons (.sl cFent) (.cons (.sl cVrow) (.cons (.sl (.one (.int .i64))) (.cons (.int .i64) (.cons (.int .i64) (.cons (.int .i64) (.cons (.int .i64) (.one (.int .i64)))))))))))
@[reducible] def cLink : Cs := .cons (.int .i64) (.cons (.int .i64) (.cons (.int .i64) (.one (.int .i64))))
@[reducible] def cSay : Cs := .cons (.int .i64) (.cons .bool (.cons (.int .i64) (.cons (.int .i64) (.cons (.int .i64) (.cons (.int .i64) (.one (.int .i64)))))))
@[reducible] def cNet : Cs := .cons (.sl cBridge) (.cons (.sl cLink) (.one (.sl cSay)))
abbrev Vec : Type := Int × Int × Int × Int × Int
abbrev Pt : Type := Bool × Int × Bool × Int × Int × Int × Int × Int
abbrev Fent : Type := Int × Int × Int × Int × Bool
abbrev Vrow : Type := Int × Int × Int
abbrev Vtab : Type := List Vrow × List Int
abbrev Bridge : Type := Int × List UInt8 × List Pt × List Fent × List Vrow × List Int × Int × Int × Int × Int × Int
abbrev Link : Type := Int × Int × Int × Int
abbrev Say : Type := Int × Bool × Int × Int × Int × Int × Int
abbrev Net : Type := List Bridge × List Link × List Say
def tis : List (Nat × TInfo) := [(2, ⟨false, .one (.int .i64), [], 0⟩),
  (3, ⟨false, .one (.int .i64), [], 0⟩),
  (4, ⟨false, .one .bool, [], 0⟩),
  (5, ⟨false, .one (.int .u8), [], 0⟩),
  (6, ⟨false, .one (.int .u8), [], 0⟩),
  (9, ⟨false, .one .str, [], 0⟩),
  (10, ⟨false, .one .str, [], 0⟩),
  (11, ⟨false, .one .str, [], 0⟩),
  (12, ⟨false, .one (.int .u64), [], 0⟩),
  (21, ⟨false, .one (.int .i32), [], 0⟩),
  (22, ⟨false, .one (.sl (.one (.int .u8))), [], 5⟩),
  (24, ⟨false, .one (.sl cPt), [], 114⟩),
  (25, ⟨false, .one (.sl cFent), [], 166⟩),
  (26, ⟨false, .one (.sl cVrow), [], 164⟩),
  (27, ⟨false, .one (.sl (.one (.int .i64))), [], 3⟩),
  (28, ⟨true, cVtab, [(26, 0), (27, 1)], 0⟩),
  (29, ⟨true, cVtab, [(26, 0), (27, 1)], 0⟩),
  (30, ⟨true, cBridge, [(3, 0), (9, 1), (24, 2), (25, 3), (29, 4), (3, 6), (3, 7), (3, 8), (3, 9), (3, 10)], 0⟩),
  (31, ⟨true, cBridge, [(3, 0), (9, 1), (24, 2), (25, 3), (29, 4), (3, 6), (3, 7), (3, 8), (3, 9), (3, 10)], 0⟩),
  (36, ⟨true, .cons (.int .i64) (.cons (.int .i64) (.cons .str (.one (.sl (.one (.int .i64)))))), [(3, 0), (3, 1), (9, 2), (27, 3)], 0⟩),
  (37, ⟨true, .cons (.int .i64) (.cons (.int .i64) (.cons .str (.one (.sl (.one (.int .i64)))))), [(3, 0), (3, 1), (9, 2), (27, 3)], 0⟩),
  (39, ⟨true, .cons (.sl (.one (.int .i64))) (.cons (.int .i64) (.cons (.int .i64) (.cons .str (.one (.sl (.one (.int .i64))))))), [(27, 0), (37, 1)], 0⟩),
  (40, ⟨true, .cons (.sl (.one (.int .i64))) (.cons (.int .i64) (.cons (.int .i64) (.cons .str (.one (.sl (.one (.int .i64))))))), [(27, 0), (37, 1)], 0⟩),
  (41, ⟨false, .one (.sl (.cons (.sl (.one (.int .i64))) (.cons (.int .i64) (.cons (.int .i64) (.cons .str (.one (.sl (.one (.int .i64))))))))), [], 40⟩),
  (43, ⟨false, .one (.sl (.cons (.int .i64) (.cons (.int .i64) (.cons (.int .i64) (.cons (.int .i64) (.one (.sl (.one (.int .u8))))))))), [], 49⟩),
  (46, ⟨true, .cons (.int .i64) (.cons (.int .i64) (.cons (.int .i64) (.one (.sl (.one (.int .u8)))))), [(3, 0), (3, 1), (3, 2), (22, 3)], 0⟩),
  (47, ⟨true, .cons (.int .i64) (.cons (.int .i64) (.cons (.int .i64) (.one (.sl (.one (.int .u8)))))), [(3, 0), (3, 1), (3, 2), (22, 3)], 0⟩),
  (48, ⟨true, .cons (.int .i64) (.cons (.int .i64) (.cons (.int .i64) (.cons (.int .i64) (.one (.sl (.one (.int .u8))))))), [(3, 0), (47, 1)], 0⟩),
  (49, ⟨true, .cons (.int .i64) (.cons (.int .i64) (.cons (.int .i64) (.cons (.int .i64) (.one (.sl (.one (.int .u8))))))), [(3, 0), (47, 1)], 0⟩),
  (50, ⟨false, .one (.sl cPt), [], 202⟩),
  (51, ⟨false, .one (.sl cFent), [], 204⟩),
  (52, ⟨false, .one (.sl cVrow), [], 265⟩),
  (53, ⟨true, cVtab, [(52, 0), (27, 1)], 0⟩),
  (54, ⟨true, cVtab, [(52, 0), (27, 1)], 0⟩),
  (55, ⟨true, cBridge, [(3, 0), (9, 1), (50, 2), (51, 3), (54, 4), (3, 6), (3, 7), (3, 8), (3, 9), (3, 10)], 0⟩),
  (56, ⟨true, cBridge, [(3, 0), (9, 1), (50, 2), (51, 3), (54, 4), (3, 6), (3, 7), (3, 8), (3, 9), (3, 10)], 0⟩),
  (62, ⟨false, .one (.sl (.cons (.int .i64) (.cons (.sl (.one (.int .u8))) (.cons (.int .i64) (.cons (.int .i64) (.cons (.int .i64) (.cons (.int .i64) (.cons (.int .i64) (.cons (.sl (.cons (.sl (.one (.int .i64))) (.cons (.int .i64) (.cons (.int .i64) (.cons .str (.one (.sl (.one (.int .i64))))))))) (.cons (.int .i64) (.cons .str (.cons (.sl cPt) (.cons (.sl cFent) (.cons (.sl cVrow) (.cons (.sl (.one (.int .i64))) (.cons (.int .i64) (.cons (.int .i64) (.cons (.int .i64) (.cons (.int .i64) (.cons (.int .i64) (.cons (.int .i64) (.one (.int .i64))))))))))))))))))))))), [], 222⟩),
  (63, ⟨true, .cons (.int .i64) (.cons .str (.cons (.sl cPt) (.cons (.sl cFent) (.cons (.sl cVrow) (.cons (.sl (.one (.int .i64))) (.cons (.int .i64) (.cons (.int .i64) (.cons (.int .i64) (.cons (.int .i64) (.cons (.int .i64) (.cons .str (.cons (.sl (.cons (.int .i64) (.cons (.sl (.one (.int .u8))) (.cons (.int .i64) (.cons (.int .i64) (.cons (.int .i64) (.cons (.int .i64) (.cons (.int .i64) (.cons (.sl (.cons (.sl (.one (.int .i64))) (.cons (.int .i64) (.cons (.int .i64) (.cons .str (.one (.sl (.one (.int .i64))))))))) (.cons (.int .i64) (.cons .str (.cons (.sl cPt) (.cons (.sl cFent) (.cons (.sl cVrow) (.cons (.sl (.one (.int .i64))) (.cons (.int .i64) (.cons (.int .i64) (.cons (.int .i64) (.cons (.int .i64) (.cons (.int .i64) (.cons (.int .i64) (.one (.int .i64))))))))))))))))))))))) (.cons (.int .i64) (.one (.int .i64))))))))))))))), [(56, 0), (9, 11), (62, 12), (3, 13), (3, 14)], 0⟩),
  (64, ⟨true, .cons (.int .i64) (.cons .str (.cons (.sl cPt) (.cons (.sl cFent) (.cons (.sl cVrow) (.cons (.sl (.one (.int .i64))) (.cons (.int .i64) (.cons (.int .i64) (.cons (.int .i64) (.cons (.int .i64) (.cons (.int .i64) (.cons .str (.cons (.sl (.cons (.int .i64) (.cons (.sl (.one (.int .u8))) (.cons (.int .i64) (.cons (.int .i64) (.cons (.int .i64) (.cons (.int .i64) (.cons (.int .i64) (.cons (.sl (.cons (.sl (.one (.int .i64))) (.cons (.int .i64) (.cons (.int .i64) (.cons .str (.one (.sl (.one (.int .i64))))))))) (.cons (.int .i64) (.cons .str (.cons (.sl cPt) (.cons (.sl cFent) (.cons (.sl cVrow) (.cons (.sl (.one (.int .i64))) (.cons (.int .i64) (.cons (.int .i64) (.cons (.int .i64) (.cons (.int .i64) (.cons (.int .i64) (.cons (.int .i64) (.one (.int .i64))))))))))))))))))))))) (.cons (.int .i64) (.one (.int .i64))))))))))))))), [(56, 0), (9, 11), (62, 12), (3, 13), (3, 14)], 0⟩),
  (67, ⟨false, .one (.sl (.cons (.int .i64) (.cons (.sl (.one (.int .u8))) (.cons (.int .i64) (.cons (.int .i64) (.cons (.int .i64) (.cons (.int .i64) (.cons (.int .i64) (.cons (.sl (.cons (.sl (.one (.int .i64))) (.cons (.int .i64) (.cons (.int .i64) (.cons .str (.one (.sl (.one (.int .i64))))))))) (.cons (.int .i64) (.cons .str (.cons (.sl cPt) (.cons (.sl cFent) (.cons (.sl cVrow) (.cons (.sl (.one (.int .i64))) (.cons (.int .i64) (.cons (.int .i64) (.cons (.int .i64) (.cons (.int .i64) (.cons (.int .i64) (.cons (.int .i64) (.one (.int .i64))))))))))))))))))))))), [], 226⟩),
  (68, ⟨true, .cons (.int .i64) (.cons .str (.cons (.sl cPt) (.cons (.sl cFent) (.cons (.sl cVrow) (.cons (.sl (.one (.int .i64))) (.cons (.int .i64) (.cons (.int .i64) (.cons (.int .i64) (.cons (.int .i64) (.cons (.int .i64) (.cons .str (.cons (.sl (.cons (.int .i64) (.cons (.sl (.one (.int .u8))) (.cons (.int .i64) (.cons (.int .i64) (.cons (.int .i64) (.cons (.int .i64) (.cons (.int .i64) (.cons (.sl (.cons (.sl (.one (.int .i64))) (.cons (.int .i64) (.cons (.int .i64) (.cons .str (.one (.sl (.one (.int .i64))))))))) (.cons (.int .i64) (.cons .str (.cons (.sl cPt) (.cons (.sl cFent) (.cons (.sl cVrow) (.cons (.sl (.one (.int .i64))) (.cons (.int .i64) (.cons (.int .i64) (.cons (.int .i64) (.cons (.int .i64) (.cons (.int .i64) (.cons (.int .i64) (.one (.int .i64))))))))))))))))))))))) (.cons (.int .i64) (.one (.int .i64))))))))))))))), [(31, 0), (9, 11), (67, 12), (3, 13), (3, 14)], 0⟩),
  (69, ⟨true, .cons (.int .i64) (.cons .str (.cons (.sl cPt) (.cons (.sl cFent) (.cons (.sl cVrow) (.cons (.sl (.one (.int .i64))) (.cons (.int .i64) (.cons (.int .i64) (.cons (.int .i64) (.cons (.int .i64) (.cons (.int .i64) (.cons .str (.cons (.sl (.cons (.int .i64) (.cons (.sl (.one (.int .u8))) (.cons (.int .i64) (.cons (.int .i64) (.cons (.int .i64) (.cons (.int .i64) (.cons (.int .i64) (.cons (.sl (.cons (.sl (.one (.int .i64))) (.cons (.int .i64) (.cons (.int .i64) (.cons .str (.one (.sl (.one (.int .i64))))))))) (.cons (.int .i64) (.cons .str (.cons (.sl cPt) (.cons (.sl cFent) (.cons (.sl cVrow) (.cons (.sl (.one (.int .i64))) (.cons (.int .i64) (.cons (.int .i64) (.cons (.int .i64) (.cons (.int .i64) (.cons (.int .i64) (.cons (.int .i64) (.one (.int .i64))))))))))))))))))))))) (.cons (.int .i64) (.one (.int .i64))))))))))))))), [(31, 0), (9, 11), (67, 12), (3, 13), (3, 14)], 0⟩),
  (73, ⟨false, .one (.sl cBridge), [], 31⟩),
  (74, ⟨false, .one (.sl cLink), [], 148⟩),
  (75, ⟨false, .one (.sl cSay), [], 234⟩),
  (76, ⟨true, cNet, [(73, 0), (74, 1), (75, 2)], 0⟩),
  (77, ⟨true, cNet, [(73, 0), (74, 1), (75, 2)], 0⟩),
  (84, ⟨true, .cons (.int .i64) (.one (.int .i64)), [(3, 0), (3, 1)], 0⟩),
  (85, ⟨true, .cons (.int .i64) (.one (.int .i64)), [(3, 0), (3, 1)], 0⟩),
  (95, ⟨false, .one (.sl cBridge), [], 56⟩),
  (96, ⟨false, .one (.sl cLink), [], 252⟩),
  (97, ⟨false, .one (.sl cSay), [], 255⟩),
  (98, ⟨true, cNet, [(95, 0), (96, 1), (97, 2)], 0⟩),
  (99, ⟨true, cNet, [(95, 0), (96, 1), (97, 2)], 0⟩),
  (111, ⟨true, cVec, [(3, 0), (3, 1), (3, 2), (3, 3), (3, 4)], 0⟩),
  (112, ⟨true, cVec, [(3, 0), (3, 1), (3, 2), (3, 3), (3, 4)], 0⟩),
  (113, ⟨true, cPt, [(4, 0), (3, 1), (4, 2), (112, 3)], 0⟩),
  (114, ⟨true, cPt, [(4, 0), (3, 1), (4, 2), (112, 3)], 0⟩),
  (138, ⟨false, .one (.sl (.one .str)), [], 9⟩),
  (147, ⟨true, cLink, [(3, 0), (3, 1), (3, 2), (3, 3)], 0⟩),
  (148, ⟨true, cLink, [(3, 0), (3, 1), (3, 2), (3, 3)], 0⟩),
  (163, ⟨true, cVrow, [(3, 0), (3, 1), (3, 2)], 0⟩),
  (164, ⟨true, cVrow, [(3, 0), (3, 1), (3, 2)], 0⟩),
  (165, ⟨true, cFent, [(3, 0), (3, 1), (3, 2), (3, 3), (4, 4)], 0⟩),
  (166, ⟨true, cFent, [(3, 0), (3, 1), (3, 2), (3, 3), (4, 4)], 0⟩),
  (200, ⟨true, cVec, [(3, 0), (3, 1), (3, 2), (3, 3), (3, 4)], 0⟩),
  (201, ⟨true, cPt, [(4, 0), (3, 1), (4, 2), (200, 3)], 0⟩),
  (202, ⟨true, cPt, [(4, 0), (3, 1), (4, 2), (200, 3)], 0⟩),
  (204, ⟨true, cFent, [(3, 0), (3, 1), (3, 2), (3, 3), (4, 4)], 0⟩),
  (210, ⟨false, .one .err, [], 0⟩),
  (218, ⟨false, .one (.sl (.cons (.sl (.one (.int .i64))) (.cons (.int .i64) (.cons (.int .i64) (.cons .str (.one (.sl (.one (.int .i64))))))))), [], 293⟩),
  (219, ⟨true, .cons (.int .i64) (.cons (.int .i64) (.cons (.int .i64) (.cons (.int .i64) (.one (.sl (.cons (.sl (.one (.int .i64))) (.cons (.int .i64) (.cons (.int .i64) (.cons .str (.one (.sl (.one (.int .i64))))))))))))), [(3, 0), (3, 1), (3, 2), (3, 3), (218, 4)], 0⟩),
  (220, ⟨true, .cons (.int .i64) (.cons (.int .i64) (.cons (.int .i64) (.cons (.int .i64) (.one (.sl (.cons (.sl (.one (.int .i64))) (.cons (.int .i64) (.cons (.int .i64) (.cons .str (.one (.sl (.one (.int .i64))))))))))))), [(3, 0), (3, 1), (3, 2), (3, 3), (218, 4)], 0⟩),
  (221, ⟨true, .cons (.int .i64) (.cons (.sl (.one (.int .u8))) (.cons (.int .i64) (.cons (.int .i64) (.cons (.int .i64) (.cons (.int .i64) (.cons (.int .i64) (.cons (.sl (.cons (.sl (.one (.int .i64))) (.cons (.int .i64) (.cons (.int .i64) (.cons .str (.one (.sl (.one (.int .i64))))))))) (.cons (.int .i64) (.cons .str (.cons (.sl cPt) (.cons (.sl cFent) (.cons (.sl cVrow) (.cons (.sl (.one (.int .i64))) (.cons (.int .i64) (.cons (.int .i64) (.cons (.int .i64) (.cons (.int .i64) (.cons (.int .i64) (.cons (.int .i64) (.one (.int .i64))))))))))))))))))))), [(3, 0), (22, 1), (3, 2), (220, 3), (56, 8), (3, 19), (3, 20)], 0⟩),
  (222, ⟨true, .cons (.int .i64) (.cons (.sl (.one (.int .u8))) (.cons (.int .i64) (.cons (.int .i64) (.cons (.int .i64) (.cons (.int .i64) (.cons (.int .i64) (.cons (.sl (.cons (.sl (.one (.int .i64))) (.cons (.int .i64) (.cons (.int .i64) (.cons .str (.one (.sl (.one (.int .i64))))))))) (.cons (.int .i64) (.cons .str (.cons (.sl cPt) (.cons (.sl cFent) (.cons (.sl cVrow) (.cons (.sl (.one (.int .i64))) (.cons (.int .i64) (.cons (.int .i64) (.cons (.int .i64) (.cons (.int .i64) (.cons (.int .i64) (.cons (.int .i64) (.one (.int .i64))))))))))))))))))))), [(3, 0), (22, 1), (3, 2), (220, 3), (56, 8), (3, 19), (3, 20)], 0⟩),
  (223, ⟨true, .cons (.int .i64) (.cons (.int .i64) (.cons (.int .i64) (.cons (.int .i64) (.one (.sl (.cons (.sl (.one (.int .i64))) (.cons (.int .i64) (.cons (.int .i64) (.cons .str (.one (.sl (.one (.int .i64))))))))))))), [(3, 0), (3, 1), (3, 2), (3, 3), (41, 4)], 0⟩),
  (224, ⟨true, .cons (.int .i64) (.cons (.int .i64) (.cons (.int .i64) (.cons (.int .i64) (.one (.sl (.cons (.sl (.one (.int .i64))) (.cons (.int .i64) (.cons (.int .i64) (.cons .str (.one (.sl (.one (.int .i64))))))))))))), [(3, 0), (3, 1), (3, 2), (3, 3), (41, 4)], 0⟩),
  (225, ⟨true, .cons (.int .i64) (.cons (.sl (.one (.int .u8))) (.cons (.int .i64) (.cons (.int .i64) (.cons (.int .i64) (.cons (.int .i64) (.cons (.int .i64) (.cons (.sl (.cons (.sl (.one (.int .i64))) (.cons (.int .i64) (.cons (.int .i64) (.cons .str (.one (.sl (.one (.int .i64))))))))) (.cons (.int .i64) (.cons .str (.cons (.sl cPt) (.cons (.sl cFent) (.cons (.sl cVrow) (.cons (.sl (.one (.int .i64))) (.cons (.int .i64) (.cons (.int .i64) (.cons (.int .i64) (.cons (.int .i64) (.cons (.int .i64) (.cons (.int .i64) (.one (.int .i64))))))))))))))))))))), [(3, 0), (22, 1), (3, 2), (224, 3), (31, 8), (3, 19), (3, 20)], 0⟩),
  (226, ⟨true, .cons (.int .i64) (.cons (.sl (.one (.int .u8))) (.cons (.int .i64) (.cons (.int .i64) (.cons (.int .i64) (.cons (.int .i64) (.cons (.int .i64) (.cons (.sl (.cons (.sl (.one (.int .i64))) (.cons (.int .i64) (.cons (.int .i64) (.cons .str (.one (.sl (.one (.int .i64))))))))) (.cons (.int .i64) (.cons .str (.cons (.sl cPt) (.cons (.sl cFent) (.cons (.sl cVrow) (.cons (.sl (.one (.int .i64))) (.cons (.int .i64) (.cons (.int .i64) (.cons (.int .i64) (.cons (.int .i64) (.cons (.int .i64) (.cons (.int .i64) (.one (.int .i64))))))))))))))))))))), [(3, 0), (22, 1), (3, 2), (224, 3), (31, 8), (3, 19), (3, 20)], 0⟩),
  (233, ⟨true, cSay, [(3, 0), (4, 1), (112, 2)], 0⟩),
  (234, ⟨true, cSay, [(3, 0), (4, 1), (112, 2)], 0⟩),
  (239, ⟨true, .cons (.sl (.one (.int .u8))) (.cons (.int .i64) (.one (.int .i64))), [(22, 0), (3, 1), (3, 2)], 0⟩),
  (240, ⟨true, .cons (.sl (.one (.int .u8))) (.cons (.int .i64) (.one (.int .i64))), [(22, 0), (3, 1), (3, 2)], 0⟩),
  (252, ⟨true, cLink, [(3, 0), (3, 1), (3, 2), (3, 3)], 0⟩),
  (254, ⟨true, cSay, [(3, 0), (4, 1), (200, 2)], 0⟩),
  (255, ⟨true, cSay, [(3, 0), (4, 1), (200, 2)], 0⟩),
  (265, ⟨true, cVrow, [(3, 0), (3, 1), (3, 2)], 0⟩),
  (273, ⟨false, .one (.sl (.one .bool)), [], 4⟩),
  (281, ⟨false, .one (.int .u64), [], 0⟩),
  (291, ⟨true, .cons (.int .i64) (.cons (.int .i64) (.cons .str (.one (.sl (.one (.int .i64)))))), [(3, 0), (3, 1), (9, 2), (27, 3)], 0⟩),
  (292, ⟨true, .cons (.sl (.one (.int .i64))) (.cons (.int .i64) (.cons (.int .i64) (.cons .str (.one (.sl (.one (.int .i64))))))), [(27, 0), (291, 1)], 0⟩),
  (293, ⟨true, .cons (.sl (.one (.int .i64))) (.cons (.int .i64) (.cons (.int .i64) (.cons .str (.one (.sl (.one (.int .i64))))))), [(27, 0), (291, 1)], 0⟩),
  (304, ⟨false, .one (.int .u32), [], 0⟩),
  (305, ⟨false, .one (.int .u8), [], 0⟩),
  (306, ⟨false, .one (.int .u8), [], 0⟩),
  (308, ⟨false, .one (.int .i32), [], 0⟩),
  (309, ⟨false, .one (.int .i32), [], 0⟩)]
theorem tisT : Tis Try.prog tis := Tis.of_all (by kernel_rfl)
theorem tisE : Eqs Try.prog tis := Eqs.of_all (by kernel_rfl)
theorem tisD : Deep Try.prog tis := Deep.of_all (by kernel_rfl)
theorem mixed : Try.prog.follows .mixedOrders = true := by kernel_rfl
def codeOf (fn : Func) : Code := match fn.body with | some c => c | none => .skip
theorem g_0 : Good Try.prog ⟨tis, []⟩ := ⟨tisT, tisE, fun f F h => by cases h⟩
noncomputable def laws_szPtS (a0 : List Pt) (left1 : Int) : Option Int :=
  let left1_1 := w64 (left1 - (a0.length : Int))
  cond (decide (left1_1 < 0)) (some (-1)) (some left1_1)
noncomputable def F_laws_szPtS : Fn := ⟨[.val false (.one (.sl cPt)) false, .val false (.one (.int .i64)) false], [.val false (.one (.int .i64)) true], fun a => laws_szPtS a.1 a.2⟩
def a_laws_szPtS : List (Nat × LoopAnn) := []
theorem e_laws_szPtS : fnDen ⟨tis, []⟩ a_laws_szPtS Try.f72 (codeOf Try.f72) [.val false (.one (.sl cPt)) false, .val false (.one (.int .i64)) false] [.val false (.one (.int .i64)) true] = fun a => laws_szPtS a.1 a.2 := by kernel_rfl
theorem m_laws_szPtS : Meets Try.prog 72 F_laws_szPtS := by
  have h := meets_of (ann := a_laws_szPtS) (ps := [.val false (.one (.sl cPt)) false, .val false (.one (.int .i64)) false]) (rs := [.val false (.one (.int .i64)) true]) g_0 mixed Try.func72 (by kernel_rfl) (by kernel_rfl : Try.f72.body = some (codeOf Try.f72))
  rw [e_laws_szPtS] at h
  exact h
noncomputable def fns_72 : List (FuncId × Fn) := (72, F_laws_szPtS) :: []
theorem g_72 : Good Try.prog ⟨tis, fns_72⟩ := g_0.cons m_laws_szPtS
noncomputable def laws_szFentS (a0 : List Fent) (left1 : Int) : Option Int :=
  let left1_1 := w64 (left1 - (a0.length : Int))
  cond (decide (left1_1 < 0)) (some (-1)) (some left1_1)
noncomputable def F_laws_szFentS : Fn := ⟨[.val false (.one (.sl cFent)) false, .val false (.one (.int .i64)) false], [.val false (.one (.int .i64)) true], fun a => laws_szFentS a.1 a.2⟩
def a_laws_szFentS : List (Nat × LoopAnn) := []
theorem e_laws_szFentS : fnDen ⟨tis, fns_72⟩ a_laws_szFentS Try.f73 (codeOf Try.f73) [.val false (.one (.sl cFent)) false, .val false (.one (.int .i64)) false] [.val false (.one (.int .i64)) true] = fun a => laws_szFentS a.1 a.2 := by kernel_rfl
theorem m_laws_szFentS : Meets Try.prog 73 F_laws_szFentS := by
  have h := meets_of (ann := a_laws_szFentS) (ps := [.val false (.one (.sl cFent)) false, .val false (.one (.int .i64)) false]) (rs := [.val false (.one (.int .i64)) true]) g_72 mixed Try.func73 (by kernel_rfl) (by kernel_rfl : Try.f73.body = some (codeOf Try.f73))
  rw [e_laws_szFentS] at h
  exact h
noncomputable def fns_73 : List (FuncId × Fn) := (73, F_laws_szFentS) :: fns_72
theorem g_73 : Good Try.prog ⟨tis, fns_73⟩ := g_72.cons m_laws_szFentS
noncomputable def laws_szVrowS (a0 : List Vrow) (left1 : Int) : Option Int :=
  let left1_1 := w64 (left1 - (a0.length : Int))
  cond (decide (left1_1 < 0)) (some (-1)) (some left1_1)
noncomputable def F_laws_szVrowS : Fn := ⟨[.val false (.one (.sl cVrow)) false, .val false (.one (.int .i64)) false], [.val false (.one (.int .i64)) true], fun a => laws_szVrowS a.1 a.2⟩
def a_laws_szVrowS : List (Nat × LoopAnn) := []
theorem e_laws_szVrowS : fnDen ⟨tis, fns_73⟩ a_laws_szVrowS Try.f142 (codeOf Try.f142) [.val false (.one (.sl cVrow)) false, .val false (.one (.int .i64)) false] [.val false (.one (.int .i64)) true] = fun a => laws_szVrowS a.1 a.2 := by kernel_rfl
theorem m_laws_szVrowS : Meets Try.prog 142 F_laws_szVrowS := by
  have h := meets_of (ann := a_laws_szVrowS) (ps := [.val false (.one (.sl cVrow)) false, .val false (.one (.int .i64)) false]) (rs := [.val false (.one (.int .i64)) true]) g_73 mixed Try.func142 (by kernel_rfl) (by kernel_rfl : Try.f142.body = some (codeOf Try.f142))
  rw [e_laws_szVrowS] at h
  exact h
noncomputable def fns_142 : List (FuncId × Fn) := (142, F_laws_szVrowS) :: fns_73
theorem g_142 : Good Try.prog ⟨tis, fns_142⟩ := g_73.cons m_laws_szVrowS
noncomputable def laws_szIntS (a0 : List Int) (left1 : Int) : Option Int :=
  let left1_1 := w64 (left1 - (a0.length : Int))
  cond (decide (left1_1 < 0)) (some (-1)) (some left1_1)
noncomputable def F_laws_szIntS : Fn := ⟨[.val false (.one (.sl (.one (.int .i64)))) false, .val false (.one (.int .i64)) false], [.val false (.one (.int .i64)) true], fun a => laws_szIntS a.1 a.2⟩
def a_laws_szIntS : List (Nat × LoopAnn) := []
theorem e_laws_szIntS : fnDen ⟨tis, fns_142⟩ a_laws_szIntS Try.f143 (codeOf Try.f143) [.val false (.one (.sl (.one (.int .i64)))) false, .val false (.one (.int .i64)) false] [.val false (.one (.int .i64)) true] = fun a => laws_szIntS a.1 a.2 := by kernel_rfl
theorem m_laws_szIntS : Meets Try.prog 143 F_laws_szIntS := by
  have h := meets_of (ann := a_laws_szIntS) (ps := [.val false (.one (.sl (.one (.int .i64)))) false, .val false (.one (.int .i64)) false]) (rs := [.val false (.one (.int .i64)) true]) g_142 mixed Try.func143 (by kernel_rfl) (by kernel_rfl : Try.f143.body = some (codeOf Try.f143))
  rw [e_laws_szIntS] at h
  exact h
noncomputable def fns_143 : List (FuncId × Fn) := (143, F_laws_szIntS) :: fns_142
theorem g_143 : Good Try.prog ⟨tis, fns_143⟩ := g_142.cons m_laws_szIntS
noncomputable def laws_szVtab (a0 : Vtab) (left1 : Int) : Option Int :=
  (laws_szVrowS a0.1 left1).bind fun t8 =>
  cond (decide (t8 < 0))
    (some (-1))
    ((laws_szIntS a0.2 t8).bind fun t14 =>
    cond (decide (t14 < 0)) (some (-1)) (some t14))
noncomputable def F_laws_szVtab : Fn := ⟨[.val true cVtab false, .val false (.one (.int .i64)) false], [.val false (.one (.int .i64)) true], fun a => laws_szVtab a.1 a.2⟩
def a_laws_szVtab : List (Nat × LoopAnn) := []
theorem e_laws_szVtab : fnDen ⟨tis, fns_143⟩ a_laws_szVtab Try.f74 (codeOf Try.f74) [.val true cVtab false, .val false (.one (.int .i64)) false] [.val false (.one (.int .i64)) true] = fun a => laws_szVtab a.1 a.2 := by kernel_rfl
theorem m_laws_szVtab : Meets Try.prog 74 F_laws_szVtab := by
  have h := meets_of (ann := a_laws_szVtab) (ps := [.val true cVtab false, .val false (.one (.int .i64)) false]) (rs := [.val false (.one (.int .i64)) true]) g_143 mixed Try.func74 (by kernel_rfl) (by kernel_rfl : Try.f74.body = some (codeOf Try.f74))
  rw [e_laws_szVtab] at h
  exact h
noncomputable def fns_74 : List (FuncId × Fn) := (74, F_laws_szVtab) :: fns_143
theorem g_74 : Good Try.prog ⟨tis, fns_74⟩ := g_143.cons m_laws_szVtab
noncomputable def laws_szBridge (a0 : Bridge) (left1 : Int) : Option Int :=
  let left1_1 := w64 (left1 - (a0.2.1.length : Int))
  cond (decide (left1_1 < 0))
    (some (-1))
    ((laws_szPtS a0.2.2.1 left1_1).bind fun t15 =>
    cond (decide (t15 < 0))
      (some (-1))
      ((laws_szFentS a0.2.2.2.1 t15).bind fun t21 =>
      cond (decide (t21 < 0))
        (some (-1))
        ((laws_szVtab (a0.2.2.2.2.1, a0.2.2.2.2.2.1) t21).bind fun t27 =>
        cond (decide (t27 < 0)) (some (-1)) (some t27))))
noncomputable def F_laws_szBridge : Fn := ⟨[.val true cBridge false, .val false (.one (.int .i64)) false], [.val false (.one (.int .i64)) true], fun a => laws_szBridge a.1 a.2⟩
def a_laws_szBridge : List (Nat × LoopAnn) := []
theorem e_laws_szBridge : fnDen ⟨tis, fns_74⟩ a_laws_szBridge Try.f18 (codeOf Try.f18) [.val true cBridge false, .val false (.one (.int .i64)) false] [.val false (.one (.int .i64)) true] = fun a => laws_szBridge a.1 a.2 := by kernel_rfl
theorem m_laws_szBridge : Meets Try.prog 18 F_laws_szBridge := by
  have h := meets_of (ann := a_laws_szBridge) (ps := [.val true cBridge false, .val false (.one (.int .i64)) false]) (rs := [.val false (.one (.int .i64)) true]) g_74 mixed Try.func18 (by kernel_rfl) (by kernel_rfl : Try.f18.body = some (codeOf Try.f18))
  rw [e_laws_szBridge] at h
  exact h
noncomputable def fns_18 : List (FuncId × Fn) := (18, F_laws_szBridge) :: fns_74
theorem g_18 : Good Try.prog ⟨tis, fns_18⟩ := g_74.cons m_laws_szBridge
noncomputable def laws_szBridgeS_l0 (a0 : List Bridge) (left1_2 : Int) (i5 : Int) : Option ((Int × Int) ⊕ (Int ⊕ Int)) :=
  cond (decide (i5 < (a0.length : Int)))
    ((at? a0 i5).bind fun x20 =>
    (laws_szBridge x20 left1_2).bind fun t23 =>
    cond (decide (t23 < 0)) (some (.inr (.inr (-1)))) (some (.inl (t23, w64 (i5 + 1)))))
    (some (.inr (.inl left1_2)))
noncomputable def laws_szBridgeS (a0 : List Bridge) (left1 : Int) : Option Int :=
  let left1_1 := w64 (left1 - (a0.length : Int))
  cond (decide (left1_1 < 0))
    (some (-1))
    ((loop (fun z => laws_szBridgeS_l0 a0 z.1 z.2) (left1_1, 0)).bind (Sum.elim (fun d =>
      some d) (fun r => some r)))
noncomputable def F_laws_szBridgeS : Fn := ⟨[.val false (.one (.sl cBridge)) false, .val false (.one (.int .i64)) false], [.val false (.one (.int .i64)) true], fun a => laws_szBridgeS a.1 a.2⟩
def a_laws_szBridgeS : List (Nat × LoopAnn) := [(0, ⟨⟨[(1, false, [.dat (.int .i64)]), (5, false, [.dat (.int .i64)])], []⟩,
    ⟨[(1, false, [.dat (.int .i64)])], []⟩, some ⟨[(4, false, [.dat (.int .i64)])], []⟩⟩)]
theorem e_laws_szBridgeS : fnDen ⟨tis, fns_18⟩ a_laws_szBridgeS Try.f111 (codeOf Try.f111) [.val false (.one (.sl cBridge)) false, .val false (.one (.int .i64)) false] [.val false (.one (.int .i64)) true] = fun a => laws_szBridgeS a.1 a.2 := by kernel_rfl
theorem m_laws_szBridgeS : Meets Try.prog 111 F_laws_szBridgeS := by
  have h := meets_of (ann := a_laws_szBridgeS) (ps := [.val false (.one (.sl cBridge)) false, .val false (.one (.int .i64)) false]) (rs := [.val false (.one (.int .i64)) true]) g_18 mixed Try.func111 (by kernel_rfl) (by kernel_rfl : Try.f111.body = some (codeOf Try.f111))
  rw [e_laws_szBridgeS] at h
  exact h
noncomputable def fns_111 : List (FuncId × Fn) := (111, F_laws_szBridgeS) :: fns_18
theorem g_111 : Good Try.prog ⟨tis, fns_111⟩ := g_18.cons m_laws_szBridgeS
noncomputable def laws_szLinkS (a0 : List Link) (left1 : Int) : Option Int :=
  let left1_1 := w64 (left1 - (a0.length : Int))
  cond (decide (left1_1 < 0)) (some (-1)) (some left1_1)
noncomputable def F_laws_szLinkS : Fn := ⟨[.val false (.one (.sl cLink)) false, .val false (.one (.int .i64)) false], [.val false (.one (.int .i64)) true], fun a => laws_szLinkS a.1 a.2⟩
def a_laws_szLinkS : List (Nat × LoopAnn) := []
theorem e_laws_szLinkS : fnDen ⟨tis, fns_111⟩ a_laws_szLinkS Try.f112 (codeOf Try.f112) [.val false (.one (.sl cLink)) false, .val false (.one (.int .i64)) false] [.val false (.one (.int .i64)) true] = fun a => laws_szLinkS a.1 a.2 := by kernel_rfl
theorem m_laws_szLinkS : Meets Try.prog 112 F_laws_szLinkS := by
  have h := meets_of (ann := a_laws_szLinkS) (ps := [.val false (.one (.sl cLink)) false, .val false (.one (.int .i64)) false]) (rs := [.val false (.one (.int .i64)) true]) g_111 mixed Try.func112 (by kernel_rfl) (by kernel_rfl : Try.f112.body = some (codeOf Try.f112))
  rw [e_laws_szLinkS] at h
  exact h
noncomputable def fns_112 : List (FuncId × Fn) := (112, F_laws_szLinkS) :: fns_111
theorem g_112 : Good Try.prog ⟨tis, fns_112⟩ := g_111.cons m_laws_szLinkS
noncomputable def laws_szSayS (a0 : List Say) (left1 : Int) : Option Int :=
  let left1_1 := w64 (left1 - (a0.length : Int))
  cond (decide (left1_1 < 0)) (some (-1)) (some left1_1)
noncomputable def F_laws_szSayS : Fn := ⟨[.val false (.one (.sl cSay)) false, .val false (.one (.int .i64)) false], [.val false (.one (.int .i64)) true], fun a => laws_szSayS a.1 a.2⟩
def a_laws_szSayS : List (Nat × LoopAnn) := []
theorem e_laws_szSayS : fnDen ⟨tis, fns_112⟩ a_laws_szSayS Try.f113 (codeOf Try.f113) [.val false (.one (.sl cSay)) false, .val false (.one (.int .i64)) false] [.val false (.one (.int .i64)) true] = fun a => laws_szSayS a.1 a.2 := by kernel_rfl
theorem m_laws_szSayS : Meets Try.prog 113 F_laws_szSayS := by
  have h := meets_of (ann := a_laws_szSayS) (ps := [.val false (.one (.sl cSay)) false, .val false (.one (.int .i64)) false]) (rs := [.val false (.one (.int .i64)) true]) g_112 mixed Try.func113 (by kernel_rfl) (by kernel_rfl : Try.f113.body = some (codeOf Try.f113))
  rw [e_laws_szSayS] at h
  exact h
noncomputable def fns_113 : List (FuncId × Fn) := (113, F_laws_szSayS) :: fns_112
theorem g_113 : Good Try.prog ⟨tis, fns_113⟩ := g_112.cons m_laws_szSayS
noncomputable def laws_szNet (a0 : Net) (left1 : Int) : Option Int :=
  (laws_szBridgeS a0.1 left1).bind fun t8 =>
  cond (decide (t8 < 0))
    (some (-1))
    ((laws_szLinkS a0.2.1 t8).bind fun t14 =>
    cond (decide (t14 < 0))
      (some (-1))
      ((laws_szSayS a0.2.2 t14).bind fun t20 =>
      cond (decide (t20 < 0)) (some (-1)) (some t20)))
noncomputable def F_laws_szNet : Fn := ⟨[.val true cNet false, .val false (.one (.int .i64)) false], [.val false (.one (.int .i64)) true], fun a => laws_szNet a.1 a.2⟩
def a_laws_szNet : List (Nat × LoopAnn) := []
theorem e_laws_szNet : fnDen ⟨tis, fns_113⟩ a_laws_szNet Try.f41 (codeOf Try.f41) [.val true cNet false, .val false (.one (.int .i64)) false] [.val false (.one (.int .i64)) true] = fun a => laws_szNet a.1 a.2 := by kernel_rfl
theorem m_laws_szNet : Meets Try.prog 41 F_laws_szNet := by
  have h := meets_of (ann := a_laws_szNet) (ps := [.val true cNet false, .val false (.one (.int .i64)) false]) (rs := [.val false (.one (.int .i64)) true]) g_113 mixed Try.func41 (by kernel_rfl) (by kernel_rfl : Try.f41.body = some (codeOf Try.f41))
  rw [e_laws_szNet] at h
  exact h
noncomputable def fns_41 : List (FuncId × Fn) := (41, F_laws_szNet) :: fns_113
theorem g_41 : Good Try.prog ⟨tis, fns_41⟩ := g_113.cons m_laws_szNet
noncomputable def spec_l1In (x0 : Int) (least1 : Int) (most2 : Int) : Option Bool :=
  (cond (decide (x0 ≥ least1)) (some (decide (x0 ≤ most2))) (some false)).bind fun t14 =>
  some t14
noncomputable def F_spec_l1In : Fn := ⟨[.val false (.one (.int .i64)) false, .val false (.one (.int .i64)) false, .val false (.one (.int .i64)) false], [.val false (.one .bool) true], fun a => spec_l1In a.1 a.2.1 a.2.2⟩
def a_spec_l1In : List (Nat × LoopAnn) := []
theorem e_spec_l1In : fnDen ⟨tis, fns_41⟩ a_spec_l1In Try.f144 (codeOf Try.f144) [.val false (.one (.int .i64)) false, .val false (.one (.int .i64)) false, .val false (.one (.int .i64)) false] [.val false (.one .bool) true] = fun a => spec_l1In a.1 a.2.1 a.2.2 := by kernel_rfl
theorem m_spec_l1In : Meets Try.prog 144 F_spec_l1In := by
  have h := meets_of (ann := a_spec_l1In) (ps := [.val false (.one (.int .i64)) false, .val false (.one (.int .i64)) false, .val false (.one (.int .i64)) false]) (rs := [.val false (.one .bool) true]) g_41 mixed Try.func144 (by kernel_rfl) (by kernel_rfl : Try.f144.body = some (codeOf Try.f144))
  rw [e_spec_l1In] at h
  exact h
noncomputable def fns_144 : List (FuncId × Fn) := (144, F_spec_l1In) :: fns_41
theorem g_144 : Good Try.prog ⟨tis, fns_144⟩ := g_41.cons m_spec_l1In
noncomputable def spec_LessVec (a0 : Vec) (b1 : Vec) : Option Bool :=
  cond (a0.1 != b1.1)
    (some (decide (a0.1 < b1.1)))
    (cond (a0.2.1 != b1.2.1)
      (some (decide (a0.2.1 < b1.2.1)))
      (cond (a0.2.2.2.1 != b1.2.2.2.1)
        (let t4 := decide (a0.2.2.2.1 < b1.2.2.2.1)
        some t4)
        (let t4_1 := decide (a0.2.2.2.2 < b1.2.2.2.2)
        some t4_1)))
noncomputable def F_spec_LessVec : Fn := ⟨[.val true cVec false, .val true cVec false], [.val false (.one .bool) true], fun a => spec_LessVec a.1 a.2⟩
def a_spec_LessVec : List (Nat × LoopAnn) := []
theorem e_spec_LessVec : fnDen ⟨tis, fns_144⟩ a_spec_LessVec Try.f146 (codeOf Try.f146) [.val true cVec false, .val true cVec false] [.val false (.one .bool) true] = fun a => spec_LessVec a.1 a.2 := by kernel_rfl
theorem m_spec_LessVec : Meets Try.prog 146 F_spec_LessVec := by
  have h := meets_of (ann := a_spec_LessVec) (ps := [.val true cVec false, .val true cVec false]) (rs := [.val false (.one .bool) true]) g_144 mixed Try.func146 (by kernel_rfl) (by kernel_rfl : Try.f146.body = some (codeOf Try.f146))
  rw [e_spec_LessVec] at h
  exact h
noncomputable def fns_146 : List (FuncId × Fn) := (146, F_spec_LessVec) :: fns_144
theorem g_146 : Good Try.prog ⟨tis, fns_146⟩ := g_144.cons m_spec_LessVec
noncomputable def spec_VecOk (v0 : Vec) : Option Bool :=
  (spec_l1In v0.1 1 99).bind fun t5 =>
  (cond t5
    ((spec_l1In v0.2.1 0 100000).bind fun t9 =>
    some t9)
    (some false)).bind fun t10 =>
  (cond t10
    ((spec_l1In v0.2.2.1 0 10).bind fun t14 =>
    some t14)
    (some false)).bind fun t15 =>
  (cond t15
    ((spec_l1In v0.2.2.2.1 1 99).bind fun t19 =>
    some t19)
    (some false)).bind fun t20 =>
  (cond t20
    ((spec_l1In v0.2.2.2.2 0 7).bind fun t24 =>
    some t24)
    (some false)).bind fun t25 =>
  some t25
noncomputable def F_spec_VecOk : Fn := ⟨[.val true cVec false], [.val false (.one .bool) true], fun a => spec_VecOk a⟩
def a_spec_VecOk : List (Nat × LoopAnn) := []
theorem e_spec_VecOk : fnDen ⟨tis, fns_146⟩ a_spec_VecOk Try.f228 (codeOf Try.f228) [.val true cVec false] [.val false (.one .bool) true] = fun a => spec_VecOk a := by kernel_rfl
theorem m_spec_VecOk : Meets Try.prog 228 F_spec_VecOk := by
  have h := meets_of (ann := a_spec_VecOk) (ps := [.val true cVec false]) (rs := [.val false (.one .bool) true]) g_146 mixed Try.func228 (by kernel_rfl) (by kernel_rfl : Try.f228.body = some (codeOf Try.f228))
  rw [e_spec_VecOk] at h
  exact h
noncomputable def fns_228 : List (FuncId × Fn) := (228, F_spec_VecOk) :: fns_146
theorem g_228 : Good Try.prog ⟨tis, fns_228⟩ := g_146.cons m_spec_VecOk
noncomputable def spec_StepVec (v0 : Vec) (cost1 : Int) : Option (Vec × Bool) :=
  (spec_VecOk v0).bind fun t8 =>
  (cond (!t8)
    (some true)
    ((spec_l1In cost1 1 1000).bind fun t12 =>
    some (!t12))).bind fun t14 =>
  cond t14
    (some (v0, false))
    ((spec_VecOk (v0.1, w64 (v0.2.1 + cost1), w64 (v0.2.2.1 + 1), v0.2.2.2.1, v0.2.2.2.2)).bind fun t27 =>
    cond (!t27)
      (some (v0, false))
      (some ((v0.1, w64 (v0.2.1 + cost1), w64 (v0.2.2.1 + 1), v0.2.2.2.1, v0.2.2.2.2), true)))
noncomputable def F_spec_StepVec : Fn := ⟨[.val true cVec false, .val false (.one (.int .i64)) false], [.val true cVec true, .val false (.one .bool) true], fun a => spec_StepVec a.1 a.2⟩
def a_spec_StepVec : List (Nat × LoopAnn) := []
theorem e_spec_StepVec : fnDen ⟨tis, fns_228⟩ a_spec_StepVec Try.f200 (codeOf Try.f200) [.val true cVec false, .val false (.one (.int .i64)) false] [.val true cVec true, .val false (.one .bool) true] = fun a => spec_StepVec a.1 a.2 := by kernel_rfl
theorem m_spec_StepVec : Meets Try.prog 200 F_spec_StepVec := by
  have h := meets_of (ann := a_spec_StepVec) (ps := [.val true cVec false, .val false (.one (.int .i64)) false]) (rs := [.val true cVec true, .val false (.one .bool) true]) g_228 mixed Try.func200 (by kernel_rfl) (by kernel_rfl : Try.f200.body = some (codeOf Try.f200))
  rw [e_spec_StepVec] at h
  exact h
noncomputable def fns_200 : List (FuncId × Fn) := (200, F_spec_StepVec) :: fns_228
theorem g_200 : Good Try.prog ⟨tis, fns_200⟩ := g_228.cons m_spec_StepVec
noncomputable def spec_BestVec_l0 (p0 : Int) (i1 : List Pt) (t8 : Int) (t9 : Int) (b0 : Int) (b1 : Int) (b2 : Int) (b3 : Int) (b4 : Int) (b0_1 : Int) (b1_1 : Int) (b2_1 : Int) (b3_1 : Int) (b4_1 : Int) : Option ((Int × Int × Int × Int × Int × Int × Int × Int × Int × Int × Int × Int) ⊕ (Int × Int × Int × Int × Int × Int × Int × Int × Int × Int × Int)) :=
  cond (decide (t9 < (i1.length : Int)))
    ((at? i1 t9).bind fun x24 =>
    (cond (!x24.1)
      (some true)
      ((at? i1 t9).bind fun x31 =>
      some (!x31.2.2.1))).bind fun t35 =>
    cond t35
      (some (.inl (t8, w64 (t9 + 1), b0, b1, b2, b3, b4, b0_1, b1_1, b2_1, b3_1, b4_1)))
      ((at? i1 t9).bind fun x39 =>
      (at? i1 t9).bind fun x44 =>
      (spec_StepVec x39.2.2.2 x44.2.1).bind fun t47 =>
      (cond t47.2 (some (decide (t47.1.1 < p0))) (some false)).bind fun t56 =>
      (cond t56
        ((cond (decide (t8 < 0))
          (some true)
          ((spec_LessVec t47.1 (b0_1, b1_1, b2_1, b3_1, b4_1)).bind fun t63 =>
          some t63)).bind fun t64 =>
        some t64)
        (some false)).bind fun t65 =>
      cond t65
        (some (.inl (t9, w64 (t9 + 1), t47.1.1, t47.1.2.1, t47.1.2.2.1, p0, 0, t47.1.1, t47.1.2.1, t47.1.2.2.1, t47.1.2.2.2.1, t47.1.2.2.2.2)))
        (some (.inl (t8, w64 (t9 + 1), b0, b1, b2, b3, b4, b0_1, b1_1, b2_1, b3_1, b4_1)))))
    (some (.inr (t8, b0, b1, b2, b3, b4, b0_1, b1_1, b2_1, b3_1, b4_1)))
noncomputable def spec_BestVec (p0 : Int) (i1 : List Pt) : Option (Vec × Int) :=
  (loop (fun z => spec_BestVec_l0 p0 i1 z.1 z.2.1 z.2.2.1 z.2.2.2.1 z.2.2.2.2.1 z.2.2.2.2.2.1 z.2.2.2.2.2.2.1 z.2.2.2.2.2.2.2.1 z.2.2.2.2.2.2.2.2.1 z.2.2.2.2.2.2.2.2.2.1 z.2.2.2.2.2.2.2.2.2.2.1 z.2.2.2.2.2.2.2.2.2.2.2) ((-1), 0, p0, 0, 0, p0, 0, 0, 0, 0, 0, 0)).bind fun d =>
  some ((d.2.1, d.2.2.1, d.2.2.2.1, d.2.2.2.2.1, d.2.2.2.2.2.1), d.1)
noncomputable def F_spec_BestVec : Fn := ⟨[.val false (.one (.int .i64)) false, .val false (.one (.sl cPt)) false], [.val true cVec true, .val false (.one (.int .i64)) true], fun a => spec_BestVec a.1 a.2⟩
def a_spec_BestVec : List (Nat × LoopAnn) := [(0, ⟨⟨[(8, false, [.dat (.int .i64)]), (9, false, [.dat (.int .i64)]), (29, false, [.undef]), (30, false, [.undef]), (31, false, [.undef]), (32, false, [.undef]), (33, false, [.undef]), (34, false, [.undef]), (52, false, [.undef]), (53, false, [.undef]), (54, false, [.undef]), (55, false, [.undef]), (58, false, [.undef]), (59, false, [.undef]), (60, false, [.undef]), (61, false, [.undef]), (62, false, [.undef]), (63, false, [.undef]), (64, false, [.undef])], [(266240, .box [.dat (.int .i64), .dat (.int .i64), .dat (.int .i64), .dat (.int .i64), .dat (.int .i64)]), (526336, .box [.dat (.int .i64), .dat (.int .i64), .dat (.int .i64), .dat (.int .i64), .dat (.int .i64)])]⟩,
    ⟨[(8, false, [.dat (.int .i64)])], [(266240, .box [.dat (.int .i64), .dat (.int .i64), .dat (.int .i64), .dat (.int .i64), .dat (.int .i64)]), (526336, .box [.dat (.int .i64), .dat (.int .i64), .dat (.int .i64), .dat (.int .i64), .dat (.int .i64)])]⟩, none⟩)]
theorem e_spec_BestVec : fnDen ⟨tis, fns_200⟩ a_spec_BestVec Try.f145 (codeOf Try.f145) [.val false (.one (.int .i64)) false, .val false (.one (.sl cPt)) false] [.val true cVec true, .val false (.one (.int .i64)) true] = fun a => spec_BestVec a.1 a.2 := by kernel_rfl
theorem m_spec_BestVec : Meets Try.prog 145 F_spec_BestVec := by
  have h := meets_of (ann := a_spec_BestVec) (ps := [.val false (.one (.int .i64)) false, .val false (.one (.sl cPt)) false]) (rs := [.val true cVec true, .val false (.one (.int .i64)) true]) g_200 mixed Try.func145 (by kernel_rfl) (by kernel_rfl : Try.f145.body = some (codeOf Try.f145))
  rw [e_spec_BestVec] at h
  exact h
noncomputable def fns_145 : List (FuncId × Fn) := (145, F_spec_BestVec) :: fns_200
theorem g_145 : Good Try.prog ⟨tis, fns_145⟩ := g_200.cons m_spec_BestVec
noncomputable def spec_SayVec (id0 : Int) (l1 : List Pt) (port2 : Int) : Option Vec :=
  (spec_BestVec id0 l1).bind fun t12 =>
  some (t12.1.1, t12.1.2.1, t12.1.2.2.1, t12.1.2.2.2.1, port2)
noncomputable def F_spec_SayVec : Fn := ⟨[.val false (.one (.int .i64)) false, .val false (.one (.sl cPt)) false, .val false (.one (.int .i64)) false], [.val true cVec true], fun a => spec_SayVec a.1 a.2.1 a.2.2⟩
def a_spec_SayVec : List (Nat × LoopAnn) := []
theorem e_spec_SayVec : fnDen ⟨tis, fns_145⟩ a_spec_SayVec Try.f147 (codeOf Try.f147) [.val false (.one (.int .i64)) false, .val false (.one (.sl cPt)) false, .val false (.one (.int .i64)) false] [.val true cVec true] = fun a => spec_SayVec a.1 a.2.1 a.2.2 := by kernel_rfl
theorem m_spec_SayVec : Meets Try.prog 147 F_spec_SayVec := by
  have h := meets_of (ann := a_spec_SayVec) (ps := [.val false (.one (.int .i64)) false, .val false (.one (.sl cPt)) false, .val false (.one (.int .i64)) false]) (rs := [.val true cVec true]) g_145 mixed Try.func147 (by kernel_rfl) (by kernel_rfl : Try.f147.body = some (codeOf Try.f147))
  rw [e_spec_SayVec] at h
  exact h
noncomputable def fns_147 : List (FuncId × Fn) := (147, F_spec_SayVec) :: fns_145
theorem g_147 : Good Try.prog ⟨tis, fns_147⟩ := g_145.cons m_spec_SayVec
noncomputable def spec_RoleOf (id0 : Int) (l1 : List Pt) (port2 : Int) : Option Int :=
  (spec_l1In port2 0 (w64 ((l1.length : Int) - 1))).bind fun t13 =>
  (cond (!t13)
    (some true)
    ((at? l1 port2).bind fun x18 =>
    some (!x18.1))).bind fun t22 =>
  cond t22
    (some 4)
    ((spec_BestVec id0 l1).bind fun t26 =>
    cond (t26.2 == port2)
      (some 1)
      ((at? l1 port2).bind fun x36 =>
      (cond (!x36.2.2.1)
        (some true)
        ((spec_SayVec id0 l1 port2).bind fun t44 =>
        (at? l1 port2).bind fun x47 =>
        (spec_LessVec t44 x47.2.2.2).bind fun t50 =>
        some t50)).bind fun t51 =>
      cond t51 (some 2) (some 3)))
noncomputable def F_spec_RoleOf : Fn := ⟨[.val false (.one (.int .i64)) false, .val false (.one (.sl cPt)) false, .val false (.one (.int .i64)) false], [.val false (.one (.int .i64)) true], fun a => spec_RoleOf a.1 a.2.1 a.2.2⟩
def a_spec_RoleOf : List (Nat × LoopAnn) := []
theorem e_spec_RoleOf : fnDen ⟨tis, fns_147⟩ a_spec_RoleOf Try.f75 (codeOf Try.f75) [.val false (.one (.int .i64)) false, .val false (.one (.sl cPt)) false, .val false (.one (.int .i64)) false] [.val false (.one (.int .i64)) true] = fun a => spec_RoleOf a.1 a.2.1 a.2.2 := by kernel_rfl
theorem m_spec_RoleOf : Meets Try.prog 75 F_spec_RoleOf := by
  have h := meets_of (ann := a_spec_RoleOf) (ps := [.val false (.one (.int .i64)) false, .val false (.one (.sl cPt)) false, .val false (.one (.int .i64)) false]) (rs := [.val false (.one (.int .i64)) true]) g_147 mixed Try.func75 (by kernel_rfl) (by kernel_rfl : Try.f75.body = some (codeOf Try.f75))
  rw [e_spec_RoleOf] at h
  exact h
noncomputable def fns_75 : List (FuncId × Fn) := (75, F_spec_RoleOf) :: fns_147
theorem g_75 : Good Try.prog ⟨tis, fns_75⟩ := g_147.cons m_spec_RoleOf
noncomputable def spec_l13Up (n0 : Net) (b1 : Int) (p2 : Int) : Option Bool :=
  (spec_l1In b1 0 (w64 ((n0.1.length : Int) - 1))).bind fun t12 =>
  (cond t12
    ((at? n0.1 b1).bind fun x18 =>
    (spec_l1In p2 0 (w64 ((x18.2.2.1.length : Int) - 1))).bind fun t23 =>
    some t23)
    (some false)).bind fun t24 =>
  (cond t24
    ((at? n0.1 b1).bind fun x29 =>
    (at? x29.2.2.1 p2).bind fun x33 =>
    some x33.1)
    (some false)).bind fun t36 =>
  some t36
noncomputable def F_spec_l13Up : Fn := ⟨[.val true cNet false, .val false (.one (.int .i64)) false, .val false (.one (.int .i64)) false], [.val false (.one .bool) true], fun a => spec_l13Up a.1 a.2.1 a.2.2⟩
def a_spec_l13Up : List (Nat × LoopAnn) := []
theorem e_spec_l13Up : fnDen ⟨tis, fns_75⟩ a_spec_l13Up Try.f187 (codeOf Try.f187) [.val true cNet false, .val false (.one (.int .i64)) false, .val false (.one (.int .i64)) false] [.val false (.one .bool) true] = fun a => spec_l13Up a.1 a.2.1 a.2.2 := by kernel_rfl
theorem m_spec_l13Up : Meets Try.prog 187 F_spec_l13Up := by
  have h := meets_of (ann := a_spec_l13Up) (ps := [.val true cNet false, .val false (.one (.int .i64)) false, .val false (.one (.int .i64)) false]) (rs := [.val false (.one .bool) true]) g_75 mixed Try.func187 (by kernel_rfl) (by kernel_rfl : Try.f187.body = some (codeOf Try.f187))
  rw [e_spec_l13Up] at h
  exact h
noncomputable def fns_187 : List (FuncId × Fn) := (187, F_spec_l13Up) :: fns_75
theorem g_187 : Good Try.prog ⟨tis, fns_187⟩ := g_75.cons m_spec_l13Up
noncomputable def spec_LinkUp (n0 : Net) (k1 : Int) : Option Bool :=
  (spec_l1In k1 0 (w64 ((n0.2.1.length : Int) - 1))).bind fun t11 =>
  cond (!t11)
    (some false)
    ((at? n0.2.1 k1).bind fun x16 =>
    (spec_l13Up n0 x16.1 x16.2.1).bind fun t23 =>
    (cond t23
      ((spec_l13Up n0 x16.2.2.1 x16.2.2.2).bind fun t30 =>
      some t30)
      (some false)).bind fun t31 =>
    some t31)
noncomputable def F_spec_LinkUp : Fn := ⟨[.val true cNet false, .val false (.one (.int .i64)) false], [.val false (.one .bool) true], fun a => spec_LinkUp a.1 a.2⟩
def a_spec_LinkUp : List (Nat × LoopAnn) := []
theorem e_spec_LinkUp : fnDen ⟨tis, fns_187⟩ a_spec_LinkUp Try.f114 (codeOf Try.f114) [.val true cNet false, .val false (.one (.int .i64)) false] [.val false (.one .bool) true] = fun a => spec_LinkUp a.1 a.2 := by kernel_rfl
theorem m_spec_LinkUp : Meets Try.prog 114 F_spec_LinkUp := by
  have h := meets_of (ann := a_spec_LinkUp) (ps := [.val true cNet false, .val false (.one (.int .i64)) false]) (rs := [.val false (.one .bool) true]) g_187 mixed Try.func114 (by kernel_rfl) (by kernel_rfl : Try.f114.body = some (codeOf Try.f114))
  rw [e_spec_LinkUp] at h
  exact h
noncomputable def fns_114 : List (FuncId × Fn) := (114, F_spec_LinkUp) :: fns_187
theorem g_114 : Good Try.prog ⟨tis, fns_114⟩ := g_187.cons m_spec_LinkUp
noncomputable def spec_OneSpeaks_l0 (n0 : Net) (i3 : Int) : Option (Int ⊕ (Unit ⊕ Bool)) :=
  cond (decide (i3 < (n0.2.1.length : Int)))
    ((spec_LinkUp n0 i3).bind fun t16 =>
    cond (!t16)
      (some (.inl (w64 (i3 + 1))))
      ((at? n0.2.1 i3).bind fun x21 =>
      (at? n0.1 x21.1).bind fun x27 =>
      (at? n0.1 x21.1).bind fun x34 =>
      (spec_RoleOf x27.1 x34.2.2.1 x21.2.1).bind fun t39 =>
      (at? n0.1 x21.2.2.1).bind fun x45 =>
      (at? n0.1 x21.2.2.1).bind fun x52 =>
      (spec_RoleOf x45.1 x52.2.2.1 x21.2.2.2).bind fun t57 =>
      cond ((t39 == 2) == (t57 == 2)) (some (.inr (.inr false))) (some (.inl (w64 (i3 + 1))))))
    (some (.inr (.inl ())))
noncomputable def spec_OneSpeaks (n0 : Net) : Option Bool :=
  (loop (fun z => spec_OneSpeaks_l0 n0 z) 0).bind (Sum.elim (fun d =>
    some true) (fun r => some r))
noncomputable def F_spec_OneSpeaks : Fn := ⟨[.val true cNet false], [.val false (.one .bool) true], fun a => spec_OneSpeaks a⟩
def a_spec_OneSpeaks : List (Nat × LoopAnn) := [(0, ⟨⟨[(3, false, [.dat (.int .i64)])], []⟩,
    ⟨[], []⟩, some ⟨[(2, false, [.dat .bool])], []⟩⟩)]
theorem e_spec_OneSpeaks : fnDen ⟨tis, fns_114⟩ a_spec_OneSpeaks Try.f42 (codeOf Try.f42) [.val true cNet false] [.val false (.one .bool) true] = fun a => spec_OneSpeaks a := by kernel_rfl
theorem m_spec_OneSpeaks : Meets Try.prog 42 F_spec_OneSpeaks := by
  have h := meets_of (ann := a_spec_OneSpeaks) (ps := [.val true cNet false]) (rs := [.val false (.one .bool) true]) g_114 mixed Try.func42 (by kernel_rfl) (by kernel_rfl : Try.f42.body = some (codeOf Try.f42))
  rw [e_spec_OneSpeaks] at h
  exact h
noncomputable def fns_42 : List (FuncId × Fn) := (42, F_spec_OneSpeaks) :: fns_114
theorem g_42 : Good Try.prog ⟨tis, fns_42⟩ := g_114.cons m_spec_OneSpeaks
noncomputable def laws_toVec (a0 : Vec) : Option Vec :=
  some a0
noncomputable def F_laws_toVec : Fn := ⟨[.val true cVec false], [.val true cVec true], fun a => laws_toVec a⟩
def a_laws_toVec : List (Nat × LoopAnn) := []
theorem e_laws_toVec : fnDen ⟨tis, fns_42⟩ a_laws_toVec Try.f201 (codeOf Try.f201) [.val true cVec false] [.val true cVec true] = fun a => laws_toVec a := by kernel_rfl
theorem m_laws_toVec : Meets Try.prog 201 F_laws_toVec := by
  have h := meets_of (ann := a_laws_toVec) (ps := [.val true cVec false]) (rs := [.val true cVec true]) g_42 mixed Try.func201 (by kernel_rfl) (by kernel_rfl : Try.f201.body = some (codeOf Try.f201))
  rw [e_laws_toVec] at h
  exact h
noncomputable def fns_201 : List (FuncId × Fn) := (201, F_laws_toVec) :: fns_42
theorem g_201 : Good Try.prog ⟨tis, fns_201⟩ := g_42.cons m_laws_toVec
noncomputable def laws_toPt (a0 : Pt) : Option Pt :=
  (laws_toVec a0.2.2.2).bind fun t15 =>
  some (a0.1, a0.2.1, a0.2.2.1, t15.1, t15.2.1, t15.2.2.1, t15.2.2.2.1, t15.2.2.2.2)
noncomputable def F_laws_toPt : Fn := ⟨[.val true cPt false], [.val true cPt true], fun a => laws_toPt a⟩
def a_laws_toPt : List (Nat × LoopAnn) := []
theorem e_laws_toPt : fnDen ⟨tis, fns_201⟩ a_laws_toPt Try.f148 (codeOf Try.f148) [.val true cPt false] [.val true cPt true] = fun a => laws_toPt a := by kernel_rfl
theorem m_laws_toPt : Meets Try.prog 148 F_laws_toPt := by
  have h := meets_of (ann := a_laws_toPt) (ps := [.val true cPt false]) (rs := [.val true cPt true]) g_201 mixed Try.func148 (by kernel_rfl) (by kernel_rfl : Try.f148.body = some (codeOf Try.f148))
  rw [e_laws_toPt] at h
  exact h
noncomputable def fns_148 : List (FuncId × Fn) := (148, F_laws_toPt) :: fns_201
theorem g_148 : Good Try.prog ⟨tis, fns_148⟩ := g_201.cons m_laws_toPt
noncomputable def laws_toPtS_l0 (a0 : List Pt) (i4 : Int) (l : List Pt) : Option ((Int × List Pt) ⊕ (List Pt)) :=
  cond (decide (i4 < (a0.length : Int)))
    ((at? a0 i4).bind fun x18 =>
    (laws_toPt x18).bind fun t20 =>
    (ix l.length i4).bind fun j21 =>
    (l[j21]?).bind fun x =>
    some (.inl (w64 (i4 + 1), l.set j21 t20)))
    (some (.inr l))
noncomputable def laws_toPtS (a0 : List Pt) : Option (List Pt) :=
  (mkLen (a0.length : Int)).bind fun n =>
  (loop (fun z => laws_toPtS_l0 a0 z.1 z.2) (0, List.replicate n ((false, 0, false, 0, 0, 0, 0, 0) : Pt))).bind fun d =>
  some d
noncomputable def F_laws_toPtS : Fn := ⟨[.val false (.one (.sl cPt)) false], [.val false (.one (.sl cPt)) true], fun a => laws_toPtS a⟩
def a_laws_toPtS : List (Nat × LoopAnn) := [(0, ⟨⟨[(4, false, [.dat (.int .i64)])], [(265216, .keep cPt true)]⟩,
    ⟨[], [(265216, .keep cPt true)]⟩, none⟩)]
theorem e_laws_toPtS : fnDen ⟨tis, fns_148⟩ a_laws_toPtS Try.f76 (codeOf Try.f76) [.val false (.one (.sl cPt)) false] [.val false (.one (.sl cPt)) true] = fun a => laws_toPtS a := by kernel_rfl
theorem m_laws_toPtS : Meets Try.prog 76 F_laws_toPtS := by
  have h := meets_of (ann := a_laws_toPtS) (ps := [.val false (.one (.sl cPt)) false]) (rs := [.val false (.one (.sl cPt)) true]) g_148 mixed Try.func76 (by kernel_rfl) (by kernel_rfl : Try.f76.body = some (codeOf Try.f76))
  rw [e_laws_toPtS] at h
  exact h
noncomputable def fns_76 : List (FuncId × Fn) := (76, F_laws_toPtS) :: fns_148
theorem g_76 : Good Try.prog ⟨tis, fns_76⟩ := g_148.cons m_laws_toPtS
noncomputable def laws_toFent (a0 : Fent) : Option Fent :=
  some a0
noncomputable def F_laws_toFent : Fn := ⟨[.val true cFent false], [.val true cFent true], fun a => laws_toFent a⟩
def a_laws_toFent : List (Nat × LoopAnn) := []
theorem e_laws_toFent : fnDen ⟨tis, fns_76⟩ a_laws_toFent Try.f149 (codeOf Try.f149) [.val true cFent false] [.val true cFent true] = fun a => laws_toFent a := by kernel_rfl
theorem m_laws_toFent : Meets Try.prog 149 F_laws_toFent := by
  have h := meets_of (ann := a_laws_toFent) (ps := [.val true cFent false]) (rs := [.val true cFent true]) g_76 mixed Try.func149 (by kernel_rfl) (by kernel_rfl : Try.f149.body = some (codeOf Try.f149))
  rw [e_laws_toFent] at h
  exact h
noncomputable def fns_149 : List (FuncId × Fn) := (149, F_laws_toFent) :: fns_76
theorem g_149 : Good Try.prog ⟨tis, fns_149⟩ := g_76.cons m_laws_toFent
noncomputable def laws_toFentS_l0 (a0 : List Fent) (i4 : Int) (l : List Fent) : Option ((Int × List Fent) ⊕ (List Fent)) :=
  cond (decide (i4 < (a0.length : Int)))
    ((at? a0 i4).bind fun x18 =>
    (laws_toFent x18).bind fun t20 =>
    (ix l.length i4).bind fun j21 =>
    (l[j21]?).bind fun x =>
    some (.inl (w64 (i4 + 1), l.set j21 t20)))
    (some (.inr l))
noncomputable def laws_toFentS (a0 : List Fent) : Option (List Fent) :=
  (mkLen (a0.length : Int)).bind fun n =>
  (loop (fun z => laws_toFentS_l0 a0 z.1 z.2) (0, List.replicate n ((0, 0, 0, 0, false) : Fent))).bind fun d =>
  some d
noncomputable def F_laws_toFentS : Fn := ⟨[.val false (.one (.sl cFent)) false], [.val false (.one (.sl cFent)) true], fun a => laws_toFentS a⟩
def a_laws_toFentS : List (Nat × LoopAnn) := [(0, ⟨⟨[(4, false, [.dat (.int .i64)])], [(265216, .keep cFent true)]⟩,
    ⟨[], [(265216, .keep cFent true)]⟩, none⟩)]
theorem e_laws_toFentS : fnDen ⟨tis, fns_149⟩ a_laws_toFentS Try.f77 (codeOf Try.f77) [.val false (.one (.sl cFent)) false] [.val false (.one (.sl cFent)) true] = fun a => laws_toFentS a := by kernel_rfl
theorem m_laws_toFentS : Meets Try.prog 77 F_laws_toFentS := by
  have h := meets_of (ann := a_laws_toFentS) (ps := [.val false (.one (.sl cFent)) false]) (rs := [.val false (.one (.sl cFent)) true]) g_149 mixed Try.func77 (by kernel_rfl) (by kernel_rfl : Try.f77.body = some (codeOf Try.f77))
  rw [e_laws_toFentS] at h
  exact h
noncomputable def fns_77 : List (FuncId × Fn) := (77, F_laws_toFentS) :: fns_149
theorem g_77 : Good Try.prog ⟨tis, fns_77⟩ := g_149.cons m_laws_toFentS
noncomputable def laws_toVrow (a0 : Vrow) : Option Vrow :=
  some a0
noncomputable def F_laws_toVrow : Fn := ⟨[.val true cVrow false], [.val true cVrow true], fun a => laws_toVrow a⟩
def a_laws_toVrow : List (Nat × LoopAnn) := []
theorem e_laws_toVrow : fnDen ⟨tis, fns_77⟩ a_laws_toVrow Try.f202 (codeOf Try.f202) [.val true cVrow false] [.val true cVrow true] = fun a => laws_toVrow a := by kernel_rfl
theorem m_laws_toVrow : Meets Try.prog 202 F_laws_toVrow := by
  have h := meets_of (ann := a_laws_toVrow) (ps := [.val true cVrow false]) (rs := [.val true cVrow true]) g_77 mixed Try.func202 (by kernel_rfl) (by kernel_rfl : Try.f202.body = some (codeOf Try.f202))
  rw [e_laws_toVrow] at h
  exact h
noncomputable def fns_202 : List (FuncId × Fn) := (202, F_laws_toVrow) :: fns_77
theorem g_202 : Good Try.prog ⟨tis, fns_202⟩ := g_77.cons m_laws_toVrow
noncomputable def laws_toVrowS_l0 (a0 : List Vrow) (i4 : Int) (l : List Vrow) : Option ((Int × List Vrow) ⊕ (List Vrow)) :=
  cond (decide (i4 < (a0.length : Int)))
    ((at? a0 i4).bind fun x18 =>
    (laws_toVrow x18).bind fun t20 =>
    (ix l.length i4).bind fun j21 =>
    (l[j21]?).bind fun x =>
    some (.inl (w64 (i4 + 1), l.set j21 t20)))
    (some (.inr l))
noncomputable def laws_toVrowS (a0 : List Vrow) : Option (List Vrow) :=
  (mkLen (a0.length : Int)).bind fun n =>
  (loop (fun z => laws_toVrowS_l0 a0 z.1 z.2) (0, List.replicate n ((0, 0, 0) : Vrow))).bind fun d =>
  some d
noncomputable def F_laws_toVrowS : Fn := ⟨[.val false (.one (.sl cVrow)) false], [.val false (.one (.sl cVrow)) true], fun a => laws_toVrowS a⟩
def a_laws_toVrowS : List (Nat × LoopAnn) := [(0, ⟨⟨[(4, false, [.dat (.int .i64)])], [(265216, .keep cVrow true)]⟩,
    ⟨[], [(265216, .keep cVrow true)]⟩, none⟩)]
theorem e_laws_toVrowS : fnDen ⟨tis, fns_202⟩ a_laws_toVrowS Try.f150 (codeOf Try.f150) [.val false (.one (.sl cVrow)) false] [.val false (.one (.sl cVrow)) true] = fun a => laws_toVrowS a := by kernel_rfl
theorem m_laws_toVrowS : Meets Try.prog 150 F_laws_toVrowS := by
  have h := meets_of (ann := a_laws_toVrowS) (ps := [.val false (.one (.sl cVrow)) false]) (rs := [.val false (.one (.sl cVrow)) true]) g_202 mixed Try.func150 (by kernel_rfl) (by kernel_rfl : Try.f150.body = some (codeOf Try.f150))
  rw [e_laws_toVrowS] at h
  exact h
noncomputable def fns_150 : List (FuncId × Fn) := (150, F_laws_toVrowS) :: fns_202
theorem g_150 : Good Try.prog ⟨tis, fns_150⟩ := g_202.cons m_laws_toVrowS
noncomputable def laws_toIntS_l0 (a0 : List Int) (i4 : Int) (l : List Int) : Option ((Int × List Int) ⊕ (List Int)) :=
  cond (decide (i4 < (a0.length : Int)))
    ((at? a0 i4).bind fun x18 =>
    (ix l.length i4).bind fun j20 =>
    (l[j20]?).bind fun x =>
    some (.inl (w64 (i4 + 1), l.set j20 x18)))
    (some (.inr l))
noncomputable def laws_toIntS (a0 : List Int) : Option (List Int) :=
  (mkLen (a0.length : Int)).bind fun n =>
  (loop (fun z => laws_toIntS_l0 a0 z.1 z.2) (0, List.replicate n (0 : Int))).bind fun d =>
  some d
noncomputable def F_laws_toIntS : Fn := ⟨[.val false (.one (.sl (.one (.int .i64)))) false], [.val false (.one (.sl (.one (.int .i64)))) true], fun a => laws_toIntS a⟩
def a_laws_toIntS : List (Nat × LoopAnn) := [(0, ⟨⟨[(4, false, [.dat (.int .i64)])], [(265216, .keep (.one (.int .i64)) true)]⟩,
    ⟨[], [(265216, .keep (.one (.int .i64)) true)]⟩, none⟩)]
theorem e_laws_toIntS : fnDen ⟨tis, fns_150⟩ a_laws_toIntS Try.f151 (codeOf Try.f151) [.val false (.one (.sl (.one (.int .i64)))) false] [.val false (.one (.sl (.one (.int .i64)))) true] = fun a => laws_toIntS a := by kernel_rfl
theorem m_laws_toIntS : Meets Try.prog 151 F_laws_toIntS := by
  have h := meets_of (ann := a_laws_toIntS) (ps := [.val false (.one (.sl (.one (.int .i64)))) false]) (rs := [.val false (.one (.sl (.one (.int .i64)))) true]) g_150 mixed Try.func151 (by kernel_rfl) (by kernel_rfl : Try.f151.body = some (codeOf Try.f151))
  rw [e_laws_toIntS] at h
  exact h
noncomputable def fns_151 : List (FuncId × Fn) := (151, F_laws_toIntS) :: fns_150
theorem g_151 : Good Try.prog ⟨tis, fns_151⟩ := g_150.cons m_laws_toIntS
noncomputable def laws_toVtab (a0 : Vtab) : Option Vtab :=
  (laws_toVrowS a0.1).bind fun t6 =>
  (laws_toIntS a0.2).bind fun t10 =>
  some (t6, t10)
noncomputable def F_laws_toVtab : Fn := ⟨[.val true cVtab false], [.val true cVtab true], fun a => laws_toVtab a⟩
def a_laws_toVtab : List (Nat × LoopAnn) := []
theorem e_laws_toVtab : fnDen ⟨tis, fns_151⟩ a_laws_toVtab Try.f78 (codeOf Try.f78) [.val true cVtab false] [.val true cVtab true] = fun a => laws_toVtab a := by kernel_rfl
theorem m_laws_toVtab : Meets Try.prog 78 F_laws_toVtab := by
  have h := meets_of (ann := a_laws_toVtab) (ps := [.val true cVtab false]) (rs := [.val true cVtab true]) g_151 mixed Try.func78 (by kernel_rfl) (by kernel_rfl : Try.f78.body = some (codeOf Try.f78))
  rw [e_laws_toVtab] at h
  exact h
noncomputable def fns_78 : List (FuncId × Fn) := (78, F_laws_toVtab) :: fns_151
theorem g_78 : Good Try.prog ⟨tis, fns_78⟩ := g_151.cons m_laws_toVtab
noncomputable def laws_toBridge (a0 : Bridge) : Option Bridge :=
  (laws_toPtS a0.2.2.1).bind fun t12 =>
  (laws_toFentS a0.2.2.2.1).bind fun t16 =>
  (laws_toVtab (a0.2.2.2.2.1, a0.2.2.2.2.2.1)).bind fun t20 =>
  some (a0.1, a0.2.1, t12, t16, t20.1, t20.2, a0.2.2.2.2.2.2.1, a0.2.2.2.2.2.2.2.1, a0.2.2.2.2.2.2.2.2.1, a0.2.2.2.2.2.2.2.2.2.1, a0.2.2.2.2.2.2.2.2.2.2)
noncomputable def F_laws_toBridge : Fn := ⟨[.val true cBridge false], [.val true cBridge true], fun a => laws_toBridge a⟩
def a_laws_toBridge : List (Nat × LoopAnn) := []
theorem e_laws_toBridge : fnDen ⟨tis, fns_78⟩ a_laws_toBridge Try.f20 (codeOf Try.f20) [.val true cBridge false] [.val true cBridge true] = fun a => laws_toBridge a := by kernel_rfl
theorem m_laws_toBridge : Meets Try.prog 20 F_laws_toBridge := by
  have h := meets_of (ann := a_laws_toBridge) (ps := [.val true cBridge false]) (rs := [.val true cBridge true]) g_78 mixed Try.func20 (by kernel_rfl) (by kernel_rfl : Try.f20.body = some (codeOf Try.f20))
  rw [e_laws_toBridge] at h
  exact h
noncomputable def fns_20 : List (FuncId × Fn) := (20, F_laws_toBridge) :: fns_78
theorem g_20 : Good Try.prog ⟨tis, fns_20⟩ := g_78.cons m_laws_toBridge
noncomputable def laws_toBridgeS_l0 (a0 : List Bridge) (i4 : Int) (l : List Bridge) : Option ((Int × List Bridge) ⊕ (List Bridge)) :=
  cond (decide (i4 < (a0.length : Int)))
    ((at? a0 i4).bind fun x18 =>
    (laws_toBridge x18).bind fun t20 =>
    (ix l.length i4).bind fun j21 =>
    (l[j21]?).bind fun x =>
    some (.inl (w64 (i4 + 1), l.set j21 t20)))
    (some (.inr l))
noncomputable def laws_toBridgeS (a0 : List Bridge) : Option (List Bridge) :=
  (mkLen (a0.length : Int)).bind fun n =>
  (loop (fun z => laws_toBridgeS_l0 a0 z.1 z.2) (0, List.replicate n ((0, [], [], [], [], [], 0, 0, 0, 0, 0) : Bridge))).bind fun d =>
  some d
noncomputable def F_laws_toBridgeS : Fn := ⟨[.val false (.one (.sl cBridge)) false], [.val false (.one (.sl cBridge)) true], fun a => laws_toBridgeS a⟩
def a_laws_toBridgeS : List (Nat × LoopAnn) := [(0, ⟨⟨[(4, false, [.dat (.int .i64)])], [(265216, .keep cBridge true)]⟩,
    ⟨[], [(265216, .keep cBridge true)]⟩, none⟩)]
theorem e_laws_toBridgeS : fnDen ⟨tis, fns_20⟩ a_laws_toBridgeS Try.f115 (codeOf Try.f115) [.val false (.one (.sl cBridge)) false] [.val false (.one (.sl cBridge)) true] = fun a => laws_toBridgeS a := by kernel_rfl
theorem m_laws_toBridgeS : Meets Try.prog 115 F_laws_toBridgeS := by
  have h := meets_of (ann := a_laws_toBridgeS) (ps := [.val false (.one (.sl cBridge)) false]) (rs := [.val false (.one (.sl cBridge)) true]) g_20 mixed Try.func115 (by kernel_rfl) (by kernel_rfl : Try.f115.body = some (codeOf Try.f115))
  rw [e_laws_toBridgeS] at h
  exact h
noncomputable def fns_115 : List (FuncId × Fn) := (115, F_laws_toBridgeS) :: fns_20
theorem g_115 : Good Try.prog ⟨tis, fns_115⟩ := g_20.cons m_laws_toBridgeS
noncomputable def laws_toLink (a0 : Link) : Option Link :=
  some a0
noncomputable def F_laws_toLink : Fn := ⟨[.val true cLink false], [.val true cLink true], fun a => laws_toLink a⟩
def a_laws_toLink : List (Nat × LoopAnn) := []
theorem e_laws_toLink : fnDen ⟨tis, fns_115⟩ a_laws_toLink Try.f188 (codeOf Try.f188) [.val true cLink false] [.val true cLink true] = fun a => laws_toLink a := by kernel_rfl
theorem m_laws_toLink : Meets Try.prog 188 F_laws_toLink := by
  have h := meets_of (ann := a_laws_toLink) (ps := [.val true cLink false]) (rs := [.val true cLink true]) g_115 mixed Try.func188 (by kernel_rfl) (by kernel_rfl : Try.f188.body = some (codeOf Try.f188))
  rw [e_laws_toLink] at h
  exact h
noncomputable def fns_188 : List (FuncId × Fn) := (188, F_laws_toLink) :: fns_115
theorem g_188 : Good Try.prog ⟨tis, fns_188⟩ := g_115.cons m_laws_toLink
noncomputable def laws_toLinkS_l0 (a0 : List Link) (i4 : Int) (l : List Link) : Option ((Int × List Link) ⊕ (List Link)) :=
  cond (decide (i4 < (a0.length : Int)))
    ((at? a0 i4).bind fun x18 =>
    (laws_toLink x18).bind fun t20 =>
    (ix l.length i4).bind fun j21 =>
    (l[j21]?).bind fun x =>
    some (.inl (w64 (i4 + 1), l.set j21 t20)))
    (some (.inr l))
noncomputable def laws_toLinkS (a0 : List Link) : Option (List Link) :=
  (mkLen (a0.length : Int)).bind fun n =>
  (loop (fun z => laws_toLinkS_l0 a0 z.1 z.2) (0, List.replicate n ((0, 0, 0, 0) : Link))).bind fun d =>
  some d
noncomputable def F_laws_toLinkS : Fn := ⟨[.val false (.one (.sl cLink)) false], [.val false (.one (.sl cLink)) true], fun a => laws_toLinkS a⟩
def a_laws_toLinkS : List (Nat × LoopAnn) := [(0, ⟨⟨[(4, false, [.dat (.int .i64)])], [(265216, .keep cLink true)]⟩,
    ⟨[], [(265216, .keep cLink true)]⟩, none⟩)]
theorem e_laws_toLinkS : fnDen ⟨tis, fns_188⟩ a_laws_toLinkS Try.f116 (codeOf Try.f116) [.val false (.one (.sl cLink)) false] [.val false (.one (.sl cLink)) true] = fun a => laws_toLinkS a := by kernel_rfl
theorem m_laws_toLinkS : Meets Try.prog 116 F_laws_toLinkS := by
  have h := meets_of (ann := a_laws_toLinkS) (ps := [.val false (.one (.sl cLink)) false]) (rs := [.val false (.one (.sl cLink)) true]) g_188 mixed Try.func116 (by kernel_rfl) (by kernel_rfl : Try.f116.body = some (codeOf Try.f116))
  rw [e_laws_toLinkS] at h
  exact h
noncomputable def fns_116 : List (FuncId × Fn) := (116, F_laws_toLinkS) :: fns_188
theorem g_116 : Good Try.prog ⟨tis, fns_116⟩ := g_188.cons m_laws_toLinkS
noncomputable def laws_toSay (a0 : Say) : Option Say :=
  (laws_toVec a0.2.2).bind fun t12 =>
  some (a0.1, a0.2.1, t12.1, t12.2.1, t12.2.2.1, t12.2.2.2.1, t12.2.2.2.2)
noncomputable def F_laws_toSay : Fn := ⟨[.val true cSay false], [.val true cSay true], fun a => laws_toSay a⟩
def a_laws_toSay : List (Nat × LoopAnn) := []
theorem e_laws_toSay : fnDen ⟨tis, fns_116⟩ a_laws_toSay Try.f189 (codeOf Try.f189) [.val true cSay false] [.val true cSay true] = fun a => laws_toSay a := by kernel_rfl
theorem m_laws_toSay : Meets Try.prog 189 F_laws_toSay := by
  have h := meets_of (ann := a_laws_toSay) (ps := [.val true cSay false]) (rs := [.val true cSay true]) g_116 mixed Try.func189 (by kernel_rfl) (by kernel_rfl : Try.f189.body = some (codeOf Try.f189))
  rw [e_laws_toSay] at h
  exact h
noncomputable def fns_189 : List (FuncId × Fn) := (189, F_laws_toSay) :: fns_116
theorem g_189 : Good Try.prog ⟨tis, fns_189⟩ := g_116.cons m_laws_toSay
noncomputable def laws_toSayS_l0 (a0 : List Say) (i4 : Int) (l : List Say) : Option ((Int × List Say) ⊕ (List Say)) :=
  cond (decide (i4 < (a0.length : Int)))
    ((at? a0 i4).bind fun x18 =>
    (laws_toSay x18).bind fun t20 =>
    (ix l.length i4).bind fun j21 =>
    (l[j21]?).bind fun x =>
    some (.inl (w64 (i4 + 1), l.set j21 t20)))
    (some (.inr l))
noncomputable def laws_toSayS (a0 : List Say) : Option (List Say) :=
  (mkLen (a0.length : Int)).bind fun n =>
  (loop (fun z => laws_toSayS_l0 a0 z.1 z.2) (0, List.replicate n ((0, false, 0, 0, 0, 0, 0) : Say))).bind fun d =>
  some d
noncomputable def F_laws_toSayS : Fn := ⟨[.val false (.one (.sl cSay)) false], [.val false (.one (.sl cSay)) true], fun a => laws_toSayS a⟩
def a_laws_toSayS : List (Nat × LoopAnn) := [(0, ⟨⟨[(4, false, [.dat (.int .i64)])], [(265216, .keep cSay true)]⟩,
    ⟨[], [(265216, .keep cSay true)]⟩, none⟩)]
theorem e_laws_toSayS : fnDen ⟨tis, fns_189⟩ a_laws_toSayS Try.f117 (codeOf Try.f117) [.val false (.one (.sl cSay)) false] [.val false (.one (.sl cSay)) true] = fun a => laws_toSayS a := by kernel_rfl
theorem m_laws_toSayS : Meets Try.prog 117 F_laws_toSayS := by
  have h := meets_of (ann := a_laws_toSayS) (ps := [.val false (.one (.sl cSay)) false]) (rs := [.val false (.one (.sl cSay)) true]) g_189 mixed Try.func117 (by kernel_rfl) (by kernel_rfl : Try.f117.body = some (codeOf Try.f117))
  rw [e_laws_toSayS] at h
  exact h
noncomputable def fns_117 : List (FuncId × Fn) := (117, F_laws_toSayS) :: fns_189
theorem g_117 : Good Try.prog ⟨tis, fns_117⟩ := g_189.cons m_laws_toSayS
noncomputable def laws_toNet (a0 : Net) : Option Net :=
  (laws_toBridgeS a0.1).bind fun t6 =>
  (laws_toLinkS a0.2.1).bind fun t10 =>
  (laws_toSayS a0.2.2).bind fun t14 =>
  some (t6, t10, t14)
noncomputable def F_laws_toNet : Fn := ⟨[.val true cNet false], [.val true cNet true], fun a => laws_toNet a⟩
def a_laws_toNet : List (Nat × LoopAnn) := []
theorem e_laws_toNet : fnDen ⟨tis, fns_117⟩ a_laws_toNet Try.f43 (codeOf Try.f43) [.val true cNet false] [.val true cNet true] = fun a => laws_toNet a := by kernel_rfl
theorem m_laws_toNet : Meets Try.prog 43 F_laws_toNet := by
  have h := meets_of (ann := a_laws_toNet) (ps := [.val true cNet false]) (rs := [.val true cNet true]) g_117 mixed Try.func43 (by kernel_rfl) (by kernel_rfl : Try.f43.body = some (codeOf Try.f43))
  rw [e_laws_toNet] at h
  exact h
noncomputable def fns_43 : List (FuncId × Fn) := (43, F_laws_toNet) :: fns_117
theorem g_43 : Good Try.prog ⟨tis, fns_43⟩ := g_117.cons m_laws_toNet
noncomputable def impl_in (n0 : Int) (low1 : Int) (high2 : Int) : Option Bool :=
  (cond (decide (n0 ≥ low1)) (some (decide (n0 ≤ high2))) (some false)).bind fun t14 =>
  some t14
noncomputable def F_impl_in : Fn := ⟨[.val false (.one (.int .i64)) false, .val false (.one (.int .i64)) false, .val false (.one (.int .i64)) false], [.val false (.one .bool) true], fun a => impl_in a.1 a.2.1 a.2.2⟩
def a_impl_in : List (Nat × LoopAnn) := []
theorem e_impl_in : fnDen ⟨tis, fns_43⟩ a_impl_in Try.f54 (codeOf Try.f54) [.val false (.one (.int .i64)) false, .val false (.one (.int .i64)) false, .val false (.one (.int .i64)) false] [.val false (.one .bool) true] = fun a => impl_in a.1 a.2.1 a.2.2 := by kernel_rfl
theorem m_impl_in : Meets Try.prog 54 F_impl_in := by
  have h := meets_of (ann := a_impl_in) (ps := [.val false (.one (.int .i64)) false, .val false (.one (.int .i64)) false, .val false (.one (.int .i64)) false]) (rs := [.val false (.one .bool) true]) g_43 mixed Try.func54 (by kernel_rfl) (by kernel_rfl : Try.f54.body = some (codeOf Try.f54))
  rw [e_impl_in] at h
  exact h
noncomputable def fns_54 : List (FuncId × Fn) := (54, F_impl_in) :: fns_43
theorem g_54 : Good Try.prog ⟨tis, fns_54⟩ := g_43.cons m_impl_in
noncomputable def impl_LessVec (a0 : Vec) (b1 : Vec) : Option Bool :=
  cond (a0.1 != b1.1)
    (some (decide (a0.1 < b1.1)))
    (cond (a0.2.1 != b1.2.1)
      (some (decide (a0.2.1 < b1.2.1)))
      (cond (a0.2.2.2.1 != b1.2.2.2.1)
        (let t4 := decide (a0.2.2.2.1 < b1.2.2.2.1)
        some t4)
        (let t4_1 := decide (a0.2.2.2.2 < b1.2.2.2.2)
        some t4_1)))
noncomputable def F_impl_LessVec : Fn := ⟨[.val true cVec false, .val true cVec false], [.val false (.one .bool) true], fun a => impl_LessVec a.1 a.2⟩
def a_impl_LessVec : List (Nat × LoopAnn) := []
theorem e_impl_LessVec : fnDen ⟨tis, fns_54⟩ a_impl_LessVec Try.f153 (codeOf Try.f153) [.val true cVec false, .val true cVec false] [.val false (.one .bool) true] = fun a => impl_LessVec a.1 a.2 := by kernel_rfl
theorem m_impl_LessVec : Meets Try.prog 153 F_impl_LessVec := by
  have h := meets_of (ann := a_impl_LessVec) (ps := [.val true cVec false, .val true cVec false]) (rs := [.val false (.one .bool) true]) g_54 mixed Try.func153 (by kernel_rfl) (by kernel_rfl : Try.f153.body = some (codeOf Try.f153))
  rw [e_impl_LessVec] at h
  exact h
noncomputable def fns_153 : List (FuncId × Fn) := (153, F_impl_LessVec) :: fns_54
theorem g_153 : Good Try.prog ⟨tis, fns_153⟩ := g_54.cons m_impl_LessVec
noncomputable def impl_VecOk (v0 : Vec) : Option Bool :=
  (impl_in v0.1 1 99).bind fun t5 =>
  (cond t5
    ((impl_in v0.2.1 0 100000).bind fun t9 =>
    some t9)
    (some false)).bind fun t10 =>
  (cond t10
    ((impl_in v0.2.2.1 0 10).bind fun t14 =>
    some t14)
    (some false)).bind fun t15 =>
  (cond t15
    ((impl_in v0.2.2.2.1 1 99).bind fun t19 =>
    some t19)
    (some false)).bind fun t20 =>
  (cond t20
    ((impl_in v0.2.2.2.2 0 7).bind fun t24 =>
    some t24)
    (some false)).bind fun t25 =>
  some t25
noncomputable def F_impl_VecOk : Fn := ⟨[.val true cVec false], [.val false (.one .bool) true], fun a => impl_VecOk a⟩
def a_impl_VecOk : List (Nat × LoopAnn) := []
theorem e_impl_VecOk : fnDen ⟨tis, fns_153⟩ a_impl_VecOk Try.f168 (codeOf Try.f168) [.val true cVec false] [.val false (.one .bool) true] = fun a => impl_VecOk a := by kernel_rfl
theorem m_impl_VecOk : Meets Try.prog 168 F_impl_VecOk := by
  have h := meets_of (ann := a_impl_VecOk) (ps := [.val true cVec false]) (rs := [.val false (.one .bool) true]) g_153 mixed Try.func168 (by kernel_rfl) (by kernel_rfl : Try.f168.body = some (codeOf Try.f168))
  rw [e_impl_VecOk] at h
  exact h
noncomputable def fns_168 : List (FuncId × Fn) := (168, F_impl_VecOk) :: fns_153
theorem g_168 : Good Try.prog ⟨tis, fns_168⟩ := g_153.cons m_impl_VecOk
noncomputable def impl_StepVec (v0 : Vec) (cost1 : Int) : Option (Vec × Bool) :=
  (impl_VecOk v0).bind fun t8 =>
  (cond (!t8)
    (some true)
    ((impl_in cost1 1 1000).bind fun t12 =>
    some (!t12))).bind fun t14 =>
  cond t14
    (some (v0, false))
    ((impl_VecOk (v0.1, w64 (v0.2.1 + cost1), w64 (v0.2.2.1 + 1), v0.2.2.2.1, v0.2.2.2.2)).bind fun t27 =>
    cond (!t27)
      (some (v0, false))
      (some ((v0.1, w64 (v0.2.1 + cost1), w64 (v0.2.2.1 + 1), v0.2.2.2.1, v0.2.2.2.2), true)))
noncomputable def F_impl_StepVec : Fn := ⟨[.val true cVec false, .val false (.one (.int .i64)) false], [.val true cVec true, .val false (.one .bool) true], fun a => impl_StepVec a.1 a.2⟩
def a_impl_StepVec : List (Nat × LoopAnn) := []
theorem e_impl_StepVec : fnDen ⟨tis, fns_168⟩ a_impl_StepVec Try.f203 (codeOf Try.f203) [.val true cVec false, .val false (.one (.int .i64)) false] [.val true cVec true, .val false (.one .bool) true] = fun a => impl_StepVec a.1 a.2 := by kernel_rfl
theorem m_impl_StepVec : Meets Try.prog 203 F_impl_StepVec := by
  have h := meets_of (ann := a_impl_StepVec) (ps := [.val true cVec false, .val false (.one (.int .i64)) false]) (rs := [.val true cVec true, .val false (.one .bool) true]) g_168 mixed Try.func203 (by kernel_rfl) (by kernel_rfl : Try.f203.body = some (codeOf Try.f203))
  rw [e_impl_StepVec] at h
  exact h
noncomputable def fns_203 : List (FuncId × Fn) := (203, F_impl_StepVec) :: fns_168
theorem g_203 : Good Try.prog ⟨tis, fns_203⟩ := g_168.cons m_impl_StepVec
noncomputable def impl_BestVec_l0 (p0 : Int) (i1 : List Pt) (t7 : Int) (t18 : Int) (b0 : Int) (b1 : Int) (b2 : Int) (b3 : Int) (b4 : Int) (b0_1 : Int) (b1_1 : Int) (b2_1 : Int) (b3_1 : Int) (b4_1 : Int) : Option ((Int × Int × Int × Int × Int × Int × Int × Int × Int × Int × Int × Int) ⊕ (Int × Int × Int × Int × Int × Int × Int × Int × Int × Int × Int)) :=
  cond (decide (t18 < (i1.length : Int)))
    ((at? i1 t18).bind fun x21 =>
    (cond (!x21.1) (some true) (some (!x21.2.2.1))).bind fun t30 =>
    cond t30
      (some (.inl (t7, w64 (t18 + 1), b0, b1, b2, b3, b4, b0_1, b1_1, b2_1, b3_1, b4_1)))
      ((impl_StepVec x21.2.2.2 x21.2.1).bind fun t36 =>
      (cond t36.2 (some (decide (t36.1.1 < p0))) (some false)).bind fun t45 =>
      (cond t45
        ((cond (decide (t7 < 0))
          (some true)
          ((impl_LessVec t36.1 (b0_1, b1_1, b2_1, b3_1, b4_1)).bind fun t52 =>
          some t52)).bind fun t53 =>
        some t53)
        (some false)).bind fun t54 =>
      cond t54
        (some (.inl (t18, w64 (t18 + 1), t36.1.1, t36.1.2.1, t36.1.2.2.1, p0, 0, t36.1.1, t36.1.2.1, t36.1.2.2.1, t36.1.2.2.2.1, t36.1.2.2.2.2)))
        (some (.inl (t7, w64 (t18 + 1), b0, b1, b2, b3, b4, b0_1, b1_1, b2_1, b3_1, b4_1)))))
    (some (.inr (t7, b0, b1, b2, b3, b4, b0_1, b1_1, b2_1, b3_1, b4_1)))
noncomputable def impl_BestVec (p0 : Int) (i1 : List Pt) : Option (Vec × Int) :=
  (loop (fun z => impl_BestVec_l0 p0 i1 z.1 z.2.1 z.2.2.1 z.2.2.2.1 z.2.2.2.2.1 z.2.2.2.2.2.1 z.2.2.2.2.2.2.1 z.2.2.2.2.2.2.2.1 z.2.2.2.2.2.2.2.2.1 z.2.2.2.2.2.2.2.2.2.1 z.2.2.2.2.2.2.2.2.2.2.1 z.2.2.2.2.2.2.2.2.2.2.2) ((-1), 0, p0, 0, 0, p0, 0, 0, 0, 0, 0, 0)).bind fun d =>
  some ((d.2.1, d.2.2.1, d.2.2.2.1, d.2.2.2.2.1, d.2.2.2.2.2.1), d.1)
noncomputable def F_impl_BestVec : Fn := ⟨[.val false (.one (.int .i64)) false, .val false (.one (.sl cPt)) false], [.val true cVec true, .val false (.one (.int .i64)) true], fun a => impl_BestVec a.1 a.2⟩
def a_impl_BestVec : List (Nat × LoopAnn) := [(0, ⟨⟨[(7, false, [.dat (.int .i64)]), (18, false, [.dat (.int .i64)]), (27, false, [.undef]), (28, false, [.undef]), (29, false, [.undef]), (41, false, [.undef]), (42, false, [.undef]), (43, false, [.undef]), (44, false, [.undef]), (47, false, [.undef]), (48, false, [.undef]), (49, false, [.undef]), (50, false, [.undef]), (51, false, [.undef]), (52, false, [.undef]), (53, false, [.undef])], [(266240, .box [.dat (.int .i64), .dat (.int .i64), .dat (.int .i64), .dat (.int .i64), .dat (.int .i64)]), (525312, .box [.dat (.int .i64), .dat (.int .i64), .dat (.int .i64), .dat (.int .i64), .dat (.int .i64)])]⟩,
    ⟨[(7, false, [.dat (.int .i64)])], [(266240, .box [.dat (.int .i64), .dat (.int .i64), .dat (.int .i64), .dat (.int .i64), .dat (.int .i64)]), (525312, .box [.dat (.int .i64), .dat (.int .i64), .dat (.int .i64), .dat (.int .i64), .dat (.int .i64)])]⟩, none⟩)]
theorem e_impl_BestVec : fnDen ⟨tis, fns_203⟩ a_impl_BestVec Try.f152 (codeOf Try.f152) [.val false (.one (.int .i64)) false, .val false (.one (.sl cPt)) false] [.val true cVec true, .val false (.one (.int .i64)) true] = fun a => impl_BestVec a.1 a.2 := by kernel_rfl
theorem m_impl_BestVec : Meets Try.prog 152 F_impl_BestVec := by
  have h := meets_of (ann := a_impl_BestVec) (ps := [.val false (.one (.int .i64)) false, .val false (.one (.sl cPt)) false]) (rs := [.val true cVec true, .val false (.one (.int .i64)) true]) g_203 mixed Try.func152 (by kernel_rfl) (by kernel_rfl : Try.f152.body = some (codeOf Try.f152))
  rw [e_impl_BestVec] at h
  exact h
noncomputable def fns_152 : List (FuncId × Fn) := (152, F_impl_BestVec) :: fns_203
theorem g_152 : Good Try.prog ⟨tis, fns_152⟩ := g_203.cons m_impl_BestVec
noncomputable def impl_SayVec (id0 : Int) (l1 : List Pt) (port2 : Int) : Option Vec :=
  (impl_BestVec id0 l1).bind fun t12 =>
  some (t12.1.1, t12.1.2.1, t12.1.2.2.1, t12.1.2.2.2.1, port2)
noncomputable def F_impl_SayVec : Fn := ⟨[.val false (.one (.int .i64)) false, .val false (.one (.sl cPt)) false, .val false (.one (.int .i64)) false], [.val true cVec true], fun a => impl_SayVec a.1 a.2.1 a.2.2⟩
def a_impl_SayVec : List (Nat × LoopAnn) := []
theorem e_impl_SayVec : fnDen ⟨tis, fns_152⟩ a_impl_SayVec Try.f154 (codeOf Try.f154) [.val false (.one (.int .i64)) false, .val false (.one (.sl cPt)) false, .val false (.one (.int .i64)) false] [.val true cVec true] = fun a => impl_SayVec a.1 a.2.1 a.2.2 := by kernel_rfl
theorem m_impl_SayVec : Meets Try.prog 154 F_impl_SayVec := by
  have h := meets_of (ann := a_impl_SayVec) (ps := [.val false (.one (.int .i64)) false, .val false (.one (.sl cPt)) false, .val false (.one (.int .i64)) false]) (rs := [.val true cVec true]) g_152 mixed Try.func154 (by kernel_rfl) (by kernel_rfl : Try.f154.body = some (codeOf Try.f154))
  rw [e_impl_SayVec] at h
  exact h
noncomputable def fns_154 : List (FuncId × Fn) := (154, F_impl_SayVec) :: fns_152
theorem g_154 : Good Try.prog ⟨tis, fns_154⟩ := g_152.cons m_impl_SayVec
noncomputable def impl_RoleOf (id0 : Int) (l1 : List Pt) (port2 : Int) : Option Int :=
  (impl_in port2 0 (w64 ((l1.length : Int) - 1))).bind fun t13 =>
  (cond (!t13)
    (some true)
    ((at? l1 port2).bind fun x18 =>
    some (!x18.1))).bind fun t22 =>
  cond t22
    (some 4)
    ((impl_BestVec id0 l1).bind fun t26 =>
    cond (t26.2 == port2)
      (some 1)
      ((at? l1 port2).bind fun x36 =>
      (cond (!x36.2.2.1)
        (some true)
        ((impl_SayVec id0 l1 port2).bind fun t44 =>
        (at? l1 port2).bind fun x47 =>
        (impl_LessVec t44 x47.2.2.2).bind fun t50 =>
        some t50)).bind fun t51 =>
      cond t51 (some 2) (some 3)))
noncomputable def F_impl_RoleOf : Fn := ⟨[.val false (.one (.int .i64)) false, .val false (.one (.sl cPt)) false, .val false (.one (.int .i64)) false], [.val false (.one (.int .i64)) true], fun a => impl_RoleOf a.1 a.2.1 a.2.2⟩
def a_impl_RoleOf : List (Nat × LoopAnn) := []
theorem e_impl_RoleOf : fnDen ⟨tis, fns_154⟩ a_impl_RoleOf Try.f79 (codeOf Try.f79) [.val false (.one (.int .i64)) false, .val false (.one (.sl cPt)) false, .val false (.one (.int .i64)) false] [.val false (.one (.int .i64)) true] = fun a => impl_RoleOf a.1 a.2.1 a.2.2 := by kernel_rfl
theorem m_impl_RoleOf : Meets Try.prog 79 F_impl_RoleOf := by
  have h := meets_of (ann := a_impl_RoleOf) (ps := [.val false (.one (.int .i64)) false, .val false (.one (.sl cPt)) false, .val false (.one (.int .i64)) false]) (rs := [.val false (.one (.int .i64)) true]) g_154 mixed Try.func79 (by kernel_rfl) (by kernel_rfl : Try.f79.body = some (codeOf Try.f79))
  rw [e_impl_RoleOf] at h
  exact h
noncomputable def fns_79 : List (FuncId × Fn) := (79, F_impl_RoleOf) :: fns_154
theorem g_79 : Good Try.prog ⟨tis, fns_79⟩ := g_154.cons m_impl_RoleOf
noncomputable def impl_portAt (n0 : Net) (b1 : Int) (p2 : Int) : Option (Pt × Bool) :=
  (impl_in b1 0 (w64 ((n0.1.length : Int) - 1))).bind fun t13 =>
  (cond (!t13)
    (some true)
    ((at? n0.1 b1).bind fun x20 =>
    (impl_in p2 0 (w64 ((x20.2.2.1.length : Int) - 1))).bind fun t25 =>
    some (!t25))).bind fun t27 =>
  cond t27
    (some ((false, 0, false, 0, 0, 0, 0, 0), false))
    ((at? n0.1 b1).bind fun x32 =>
    (at? x32.2.2.1 p2).bind fun x36 =>
    some (x36, true))
noncomputable def F_impl_portAt : Fn := ⟨[.val true cNet false, .val false (.one (.int .i64)) false, .val false (.one (.int .i64)) false], [.val true cPt true, .val false (.one .bool) true], fun a => impl_portAt a.1 a.2.1 a.2.2⟩
def a_impl_portAt : List (Nat × LoopAnn) := []
theorem e_impl_portAt : fnDen ⟨tis, fns_79⟩ a_impl_portAt Try.f166 (codeOf Try.f166) [.val true cNet false, .val false (.one (.int .i64)) false, .val false (.one (.int .i64)) false] [.val true cPt true, .val false (.one .bool) true] = fun a => impl_portAt a.1 a.2.1 a.2.2 := by kernel_rfl
theorem m_impl_portAt : Meets Try.prog 166 F_impl_portAt := by
  have h := meets_of (ann := a_impl_portAt) (ps := [.val true cNet false, .val false (.one (.int .i64)) false, .val false (.one (.int .i64)) false]) (rs := [.val true cPt true, .val false (.one .bool) true]) g_79 mixed Try.func166 (by kernel_rfl) (by kernel_rfl : Try.f166.body = some (codeOf Try.f166))
  rw [e_impl_portAt] at h
  exact h
noncomputable def fns_166 : List (FuncId × Fn) := (166, F_impl_portAt) :: fns_79
theorem g_166 : Good Try.prog ⟨tis, fns_166⟩ := g_79.cons m_impl_portAt
noncomputable def impl_LinkUp (n0 : Net) (k1 : Int) : Option Bool :=
  (impl_in k1 0 (w64 ((n0.2.1.length : Int) - 1))).bind fun t14 =>
  cond (!t14)
    (some false)
    ((at? n0.2.1 k1).bind fun x21 =>
    (at? n0.2.1 k1).bind fun x27 =>
    (impl_portAt n0 x21.1 x27.2.1).bind fun t30 =>
    (at? n0.2.1 k1).bind fun x38 =>
    (at? n0.2.1 k1).bind fun x44 =>
    (impl_portAt n0 x38.2.2.1 x44.2.2.2).bind fun t47 =>
    (cond t30.2 (some t47.2) (some false)).bind fun t53 =>
    (cond t53 (some t30.1.1) (some false)).bind fun t57 =>
    (cond t57 (some t47.1.1) (some false)).bind fun t61 =>
    some t61)
noncomputable def F_impl_LinkUp : Fn := ⟨[.val true cNet false, .val false (.one (.int .i64)) false], [.val false (.one .bool) true], fun a => impl_LinkUp a.1 a.2⟩
def a_impl_LinkUp : List (Nat × LoopAnn) := []
theorem e_impl_LinkUp : fnDen ⟨tis, fns_166⟩ a_impl_LinkUp Try.f90 (codeOf Try.f90) [.val true cNet false, .val false (.one (.int .i64)) false] [.val false (.one .bool) true] = fun a => impl_LinkUp a.1 a.2 := by kernel_rfl
theorem m_impl_LinkUp : Meets Try.prog 90 F_impl_LinkUp := by
  have h := meets_of (ann := a_impl_LinkUp) (ps := [.val true cNet false, .val false (.one (.int .i64)) false]) (rs := [.val false (.one .bool) true]) g_166 mixed Try.func90 (by kernel_rfl) (by kernel_rfl : Try.f90.body = some (codeOf Try.f90))
  rw [e_impl_LinkUp] at h
  exact h
noncomputable def fns_90 : List (FuncId × Fn) := (90, F_impl_LinkUp) :: fns_166
theorem g_90 : Good Try.prog ⟨tis, fns_90⟩ := g_166.cons m_impl_LinkUp
noncomputable def impl_UpLinks_l0 (n0 : Net) (t8 : Int) (out3 : List Int) : Option ((Int × List Int) ⊕ (List Int)) :=
  cond (decide (t8 < (n0.2.1.length : Int)))
    ((impl_LinkUp n0 t8).bind fun t13 =>
    cond t13
      ((app out3 [t8]).bind fun zs17 =>
      some (.inl (w64 (t8 + 1), zs17)))
      (some (.inl (w64 (t8 + 1), out3))))
    (some (.inr out3))
noncomputable def impl_UpLinks (n0 : Net) : Option (List Int) :=
  (loop (fun z => impl_UpLinks_l0 n0 z.1 z.2) (0, [])).bind fun d =>
  some d
noncomputable def F_impl_UpLinks : Fn := ⟨[.val true cNet false], [.val false (.one (.sl (.one (.int .i64)))) true], fun a => impl_UpLinks a⟩
def a_impl_UpLinks : List (Nat × LoopAnn) := [(0, ⟨⟨[(3, false, [.own 1000000000]), (8, false, [.dat (.int .i64)])], [(1000000000, .root (.one (.int .i64)) true)]⟩,
    ⟨[(3, false, [.own 1000000300])], [(1000000300, .root (.one (.int .i64)) true)]⟩, none⟩)]
theorem e_impl_UpLinks : fnDen ⟨tis, fns_90⟩ a_impl_UpLinks Try.f101 (codeOf Try.f101) [.val true cNet false] [.val false (.one (.sl (.one (.int .i64)))) true] = fun a => impl_UpLinks a := by kernel_rfl
theorem m_impl_UpLinks : Meets Try.prog 101 F_impl_UpLinks := by
  have h := meets_of (ann := a_impl_UpLinks) (ps := [.val true cNet false]) (rs := [.val false (.one (.sl (.one (.int .i64)))) true]) g_90 mixed Try.func101 (by kernel_rfl) (by kernel_rfl : Try.f101.body = some (codeOf Try.f101))
  rw [e_impl_UpLinks] at h
  exact h
noncomputable def fns_101 : List (FuncId × Fn) := (101, F_impl_UpLinks) :: fns_90
theorem g_101 : Good Try.prog ⟨tis, fns_101⟩ := g_90.cons m_impl_UpLinks
noncomputable def impl_OneSpeaks_l0 (n0 : Net) (t9 : List Int) (t11 : Int) : Option (Int ⊕ (Unit ⊕ Bool)) :=
  cond (decide (t11 < (t9.length : Int)))
    ((ix t9.length t11).bind fun j13 =>
    (t9[j13]?).bind fun x14 =>
    (at? n0.2.1 x14).bind fun x18 =>
    (at? n0.1 x18.1).bind fun x24 =>
    (at? n0.1 x18.1).bind fun x31 =>
    (impl_RoleOf x24.1 x31.2.2.1 x18.2.1).bind fun t36 =>
    (at? n0.1 x18.2.2.1).bind fun x41 =>
    (at? n0.1 x18.2.2.1).bind fun x48 =>
    (impl_RoleOf x41.1 x48.2.2.1 x18.2.2.2).bind fun t53 =>
    cond ((t36 == 2) == (t53 == 2)) (some (.inr (.inr false))) (some (.inl (w64 (t11 + 1)))))
    (some (.inr (.inl ())))
noncomputable def impl_OneSpeaks (n0 : Net) : Option Bool :=
  (impl_UpLinks n0).bind fun t9 =>
  (loop (fun z => impl_OneSpeaks_l0 n0 t9 z) 0).bind (Sum.elim (fun d =>
    some true) (fun r => some r))
noncomputable def F_impl_OneSpeaks : Fn := ⟨[.val true cNet false], [.val false (.one .bool) true], fun a => impl_OneSpeaks a⟩
def a_impl_OneSpeaks : List (Nat × LoopAnn) := [(0, ⟨⟨[(11, false, [.dat (.int .i64)])], []⟩,
    ⟨[], []⟩, some ⟨[(2, false, [.dat .bool])], []⟩⟩)]
theorem e_impl_OneSpeaks : fnDen ⟨tis, fns_101⟩ a_impl_OneSpeaks Try.f44 (codeOf Try.f44) [.val true cNet false] [.val false (.one .bool) true] = fun a => impl_OneSpeaks a := by kernel_rfl
theorem m_impl_OneSpeaks : Meets Try.prog 44 F_impl_OneSpeaks := by
  have h := meets_of (ann := a_impl_OneSpeaks) (ps := [.val true cNet false]) (rs := [.val false (.one .bool) true]) g_101 mixed Try.func44 (by kernel_rfl) (by kernel_rfl : Try.f44.body = some (codeOf Try.f44))
  rw [e_impl_OneSpeaks] at h
  exact h
noncomputable def fns_44 : List (FuncId × Fn) := (44, F_impl_OneSpeaks) :: fns_101
theorem g_44 : Good Try.prog ⟨tis, fns_44⟩ := g_101.cons m_impl_OneSpeaks
noncomputable def laws_eqVec (a0 : Vec) (b1 : Vec) : Option Bool :=
  cond (a0.1 != b1.1)
    (some false)
    (cond (a0.2.1 != b1.2.1)
      (some false)
      (cond (a0.2.2.1 != b1.2.2.1)
        (some false)
        (cond (a0.2.2.2.1 != b1.2.2.2.1)
          (some false)
          (cond (a0.2.2.2.2 != b1.2.2.2.2) (some false) (some true)))))
noncomputable def F_laws_eqVec : Fn := ⟨[.val true cVec false, .val true cVec false], [.val false (.one .bool) true], fun a => laws_eqVec a.1 a.2⟩
def a_laws_eqVec : List (Nat × LoopAnn) := []
theorem e_laws_eqVec : fnDen ⟨tis, fns_44⟩ a_laws_eqVec Try.f206 (codeOf Try.f206) [.val true cVec false, .val true cVec false] [.val false (.one .bool) true] = fun a => laws_eqVec a.1 a.2 := by kernel_rfl
theorem m_laws_eqVec : Meets Try.prog 206 F_laws_eqVec := by
  have h := meets_of (ann := a_laws_eqVec) (ps := [.val true cVec false, .val true cVec false]) (rs := [.val false (.one .bool) true]) g_44 mixed Try.func206 (by kernel_rfl) (by kernel_rfl : Try.f206.body = some (codeOf Try.f206))
  rw [e_laws_eqVec] at h
  exact h
noncomputable def fns_206 : List (FuncId × Fn) := (206, F_laws_eqVec) :: fns_44
theorem g_206 : Good Try.prog ⟨tis, fns_206⟩ := g_44.cons m_laws_eqVec
noncomputable def laws_eqPt (a0 : Pt) (b1 : Pt) : Option Bool :=
  cond (!(a0.1 == b1.1))
    (some false)
    (cond (a0.2.1 != b1.2.1)
      (some false)
      (cond (!(a0.2.2.1 == b1.2.2.1))
        (some false)
        ((laws_eqVec a0.2.2.2 b1.2.2.2).bind fun t24 =>
        cond (!t24) (some false) (some true))))
noncomputable def F_laws_eqPt : Fn := ⟨[.val true cPt false, .val true cPt false], [.val false (.one .bool) true], fun a => laws_eqPt a.1 a.2⟩
def a_laws_eqPt : List (Nat × LoopAnn) := []
theorem e_laws_eqPt : fnDen ⟨tis, fns_206⟩ a_laws_eqPt Try.f158 (codeOf Try.f158) [.val true cPt false, .val true cPt false] [.val false (.one .bool) true] = fun a => laws_eqPt a.1 a.2 := by kernel_rfl
theorem m_laws_eqPt : Meets Try.prog 158 F_laws_eqPt := by
  have h := meets_of (ann := a_laws_eqPt) (ps := [.val true cPt false, .val true cPt false]) (rs := [.val false (.one .bool) true]) g_206 mixed Try.func158 (by kernel_rfl) (by kernel_rfl : Try.f158.body = some (codeOf Try.f158))
  rw [e_laws_eqPt] at h
  exact h
noncomputable def fns_158 : List (FuncId × Fn) := (158, F_laws_eqPt) :: fns_206
theorem g_158 : Good Try.prog ⟨tis, fns_158⟩ := g_206.cons m_laws_eqPt
noncomputable def laws_eqPtS_l0 (a0 : List Pt) (b1 : List Pt) (i5 : Int) : Option (Int ⊕ (Unit ⊕ Bool)) :=
  cond (decide (i5 < (a0.length : Int)))
    ((at? a0 i5).bind fun x19 =>
    (at? b1 i5).bind fun x23 =>
    (laws_eqPt x19 x23).bind fun t25 =>
    cond (!t25) (some (.inr (.inr false))) (some (.inl (w64 (i5 + 1)))))
    (some (.inr (.inl ())))
noncomputable def laws_eqPtS (a0 : List Pt) (b1 : List Pt) : Option Bool :=
  cond ((a0.length : Int) != (b1.length : Int))
    (some false)
    ((loop (fun z => laws_eqPtS_l0 a0 b1 z) 0).bind (Sum.elim (fun d =>
      some true) (fun r => some r)))
noncomputable def F_laws_eqPtS : Fn := ⟨[.val false (.one (.sl cPt)) false, .val false (.one (.sl cPt)) false], [.val false (.one .bool) true], fun a => laws_eqPtS a.1 a.2⟩
def a_laws_eqPtS : List (Nat × LoopAnn) := [(0, ⟨⟨[(5, false, [.dat (.int .i64)])], []⟩,
    ⟨[], []⟩, some ⟨[(4, false, [.dat .bool])], []⟩⟩)]
theorem e_laws_eqPtS : fnDen ⟨tis, fns_158⟩ a_laws_eqPtS Try.f81 (codeOf Try.f81) [.val false (.one (.sl cPt)) false, .val false (.one (.sl cPt)) false] [.val false (.one .bool) true] = fun a => laws_eqPtS a.1 a.2 := by kernel_rfl
theorem m_laws_eqPtS : Meets Try.prog 81 F_laws_eqPtS := by
  have h := meets_of (ann := a_laws_eqPtS) (ps := [.val false (.one (.sl cPt)) false, .val false (.one (.sl cPt)) false]) (rs := [.val false (.one .bool) true]) g_158 mixed Try.func81 (by kernel_rfl) (by kernel_rfl : Try.f81.body = some (codeOf Try.f81))
  rw [e_laws_eqPtS] at h
  exact h
noncomputable def fns_81 : List (FuncId × Fn) := (81, F_laws_eqPtS) :: fns_158
theorem g_81 : Good Try.prog ⟨tis, fns_81⟩ := g_158.cons m_laws_eqPtS
noncomputable def laws_eqFent (a0 : Fent) (b1 : Fent) : Option Bool :=
  cond (a0.1 != b1.1)
    (some false)
    (cond (a0.2.1 != b1.2.1)
      (some false)
      (cond (a0.2.2.1 != b1.2.2.1)
        (some false)
        (cond (a0.2.2.2.1 != b1.2.2.2.1)
          (some false)
          (cond (!(a0.2.2.2.2 == b1.2.2.2.2)) (some false) (some true)))))
noncomputable def F_laws_eqFent : Fn := ⟨[.val true cFent false, .val true cFent false], [.val false (.one .bool) true], fun a => laws_eqFent a.1 a.2⟩
def a_laws_eqFent : List (Nat × LoopAnn) := []
theorem e_laws_eqFent : fnDen ⟨tis, fns_81⟩ a_laws_eqFent Try.f159 (codeOf Try.f159) [.val true cFent false, .val true cFent false] [.val false (.one .bool) true] = fun a => laws_eqFent a.1 a.2 := by kernel_rfl
theorem m_laws_eqFent : Meets Try.prog 159 F_laws_eqFent := by
  have h := meets_of (ann := a_laws_eqFent) (ps := [.val true cFent false, .val true cFent false]) (rs := [.val false (.one .bool) true]) g_81 mixed Try.func159 (by kernel_rfl) (by kernel_rfl : Try.f159.body = some (codeOf Try.f159))
  rw [e_laws_eqFent] at h
  exact h
noncomputable def fns_159 : List (FuncId × Fn) := (159, F_laws_eqFent) :: fns_81
theorem g_159 : Good Try.prog ⟨tis, fns_159⟩ := g_81.cons m_laws_eqFent
noncomputable def laws_eqFentS_l0 (a0 : List Fent) (b1 : List Fent) (i5 : Int) : Option (Int ⊕ (Unit ⊕ Bool)) :=
  cond (decide (i5 < (a0.length : Int)))
    ((at? a0 i5).bind fun x19 =>
    (at? b1 i5).bind fun x23 =>
    (laws_eqFent x19 x23).bind fun t25 =>
    cond (!t25) (some (.inr (.inr false))) (some (.inl (w64 (i5 + 1)))))
    (some (.inr (.inl ())))
noncomputable def laws_eqFentS (a0 : List Fent) (b1 : List Fent) : Option Bool :=
  cond ((a0.length : Int) != (b1.length : Int))
    (some false)
    ((loop (fun z => laws_eqFentS_l0 a0 b1 z) 0).bind (Sum.elim (fun d =>
      some true) (fun r => some r)))
noncomputable def F_laws_eqFentS : Fn := ⟨[.val false (.one (.sl cFent)) false, .val false (.one (.sl cFent)) false], [.val false (.one .bool) true], fun a => laws_eqFentS a.1 a.2⟩
def a_laws_eqFentS : List (Nat × LoopAnn) := [(0, ⟨⟨[(5, false, [.dat (.int .i64)])], []⟩,
    ⟨[], []⟩, some ⟨[(4, false, [.dat .bool])], []⟩⟩)]
theorem e_laws_eqFentS : fnDen ⟨tis, fns_159⟩ a_laws_eqFentS Try.f82 (codeOf Try.f82) [.val false (.one (.sl cFent)) false, .val false (.one (.sl cFent)) false] [.val false (.one .bool) true] = fun a => laws_eqFentS a.1 a.2 := by kernel_rfl
theorem m_laws_eqFentS : Meets Try.prog 82 F_laws_eqFentS := by
  have h := meets_of (ann := a_laws_eqFentS) (ps := [.val false (.one (.sl cFent)) false, .val false (.one (.sl cFent)) false]) (rs := [.val false (.one .bool) true]) g_159 mixed Try.func82 (by kernel_rfl) (by kernel_rfl : Try.f82.body = some (codeOf Try.f82))
  rw [e_laws_eqFentS] at h
  exact h
noncomputable def fns_82 : List (FuncId × Fn) := (82, F_laws_eqFentS) :: fns_159
theorem g_82 : Good Try.prog ⟨tis, fns_82⟩ := g_159.cons m_laws_eqFentS
noncomputable def laws_eqVrow (a0 : Vrow) (b1 : Vrow) : Option Bool :=
  cond (a0.1 != b1.1)
    (some false)
    (cond (a0.2.1 != b1.2.1) (some false) (cond (a0.2.2 != b1.2.2) (some false) (some true)))
noncomputable def F_laws_eqVrow : Fn := ⟨[.val true cVrow false, .val true cVrow false], [.val false (.one .bool) true], fun a => laws_eqVrow a.1 a.2⟩
def a_laws_eqVrow : List (Nat × LoopAnn) := []
theorem e_laws_eqVrow : fnDen ⟨tis, fns_82⟩ a_laws_eqVrow Try.f207 (codeOf Try.f207) [.val true cVrow false, .val true cVrow false] [.val false (.one .bool) true] = fun a => laws_eqVrow a.1 a.2 := by kernel_rfl
theorem m_laws_eqVrow : Meets Try.prog 207 F_laws_eqVrow := by
  have h := meets_of (ann := a_laws_eqVrow) (ps := [.val true cVrow false, .val true cVrow false]) (rs := [.val false (.one .bool) true]) g_82 mixed Try.func207 (by kernel_rfl) (by kernel_rfl : Try.f207.body = some (codeOf Try.f207))
  rw [e_laws_eqVrow] at h
  exact h
noncomputable def fns_207 : List (FuncId × Fn) := (207, F_laws_eqVrow) :: fns_82
theorem g_207 : Good Try.prog ⟨tis, fns_207⟩ := g_82.cons m_laws_eqVrow
noncomputable def laws_eqVrowS_l0 (a0 : List Vrow) (b1 : List Vrow) (i5 : Int) : Option (Int ⊕ (Unit ⊕ Bool)) :=
  cond (decide (i5 < (a0.length : Int)))
    ((at? a0 i5).bind fun x19 =>
    (at? b1 i5).bind fun x23 =>
    (laws_eqVrow x19 x23).bind fun t25 =>
    cond (!t25) (some (.inr (.inr false))) (some (.inl (w64 (i5 + 1)))))
    (some (.inr (.inl ())))
noncomputable def laws_eqVrowS (a0 : List Vrow) (b1 : List Vrow) : Option Bool :=
  cond ((a0.length : Int) != (b1.length : Int))
    (some false)
    ((loop (fun z => laws_eqVrowS_l0 a0 b1 z) 0).bind (Sum.elim (fun d =>
      some true) (fun r => some r)))
noncomputable def F_laws_eqVrowS : Fn := ⟨[.val false (.one (.sl cVrow)) false, .val false (.one (.sl cVrow)) false], [.val false (.one .bool) true], fun a => laws_eqVrowS a.1 a.2⟩
def a_laws_eqVrowS : List (Nat × LoopAnn) := [(0, ⟨⟨[(5, false, [.dat (.int .i64)])], []⟩,
    ⟨[], []⟩, some ⟨[(4, false, [.dat .bool])], []⟩⟩)]
theorem e_laws_eqVrowS : fnDen ⟨tis, fns_207⟩ a_laws_eqVrowS Try.f160 (codeOf Try.f160) [.val false (.one (.sl cVrow)) false, .val false (.one (.sl cVrow)) false] [.val false (.one .bool) true] = fun a => laws_eqVrowS a.1 a.2 := by kernel_rfl
theorem m_laws_eqVrowS : Meets Try.prog 160 F_laws_eqVrowS := by
  have h := meets_of (ann := a_laws_eqVrowS) (ps := [.val false (.one (.sl cVrow)) false, .val false (.one (.sl cVrow)) false]) (rs := [.val false (.one .bool) true]) g_207 mixed Try.func160 (by kernel_rfl) (by kernel_rfl : Try.f160.body = some (codeOf Try.f160))
  rw [e_laws_eqVrowS] at h
  exact h
noncomputable def fns_160 : List (FuncId × Fn) := (160, F_laws_eqVrowS) :: fns_207
theorem g_160 : Good Try.prog ⟨tis, fns_160⟩ := g_207.cons m_laws_eqVrowS
noncomputable def laws_eqIntS_l0 (a0 : List Int) (b1 : List Int) (i5 : Int) : Option (Int ⊕ (Unit ⊕ Bool)) :=
  cond (decide (i5 < (a0.length : Int)))
    ((at? a0 i5).bind fun x19 =>
    (at? b1 i5).bind fun x23 =>
    cond (x19 != x23) (some (.inr (.inr false))) (some (.inl (w64 (i5 + 1)))))
    (some (.inr (.inl ())))
noncomputable def laws_eqIntS (a0 : List Int) (b1 : List Int) : Option Bool :=
  cond ((a0.length : Int) != (b1.length : Int))
    (some false)
    ((loop (fun z => laws_eqIntS_l0 a0 b1 z) 0).bind (Sum.elim (fun d =>
      some true) (fun r => some r)))
noncomputable def F_laws_eqIntS : Fn := ⟨[.val false (.one (.sl (.one (.int .i64)))) false, .val false (.one (.sl (.one (.int .i64)))) false], [.val false (.one .bool) true], fun a => laws_eqIntS a.1 a.2⟩
def a_laws_eqIntS : List (Nat × LoopAnn) := [(0, ⟨⟨[(5, false, [.dat (.int .i64)])], []⟩,
    ⟨[], []⟩, some ⟨[(4, false, [.dat .bool])], []⟩⟩)]
theorem e_laws_eqIntS : fnDen ⟨tis, fns_160⟩ a_laws_eqIntS Try.f161 (codeOf Try.f161) [.val false (.one (.sl (.one (.int .i64)))) false, .val false (.one (.sl (.one (.int .i64)))) false] [.val false (.one .bool) true] = fun a => laws_eqIntS a.1 a.2 := by kernel_rfl
theorem m_laws_eqIntS : Meets Try.prog 161 F_laws_eqIntS := by
  have h := meets_of (ann := a_laws_eqIntS) (ps := [.val false (.one (.sl (.one (.int .i64)))) false, .val false (.one (.sl (.one (.int .i64)))) false]) (rs := [.val false (.one .bool) true]) g_160 mixed Try.func161 (by kernel_rfl) (by kernel_rfl : Try.f161.body = some (codeOf Try.f161))
  rw [e_laws_eqIntS] at h
  exact h
noncomputable def fns_161 : List (FuncId × Fn) := (161, F_laws_eqIntS) :: fns_160
theorem g_161 : Good Try.prog ⟨tis, fns_161⟩ := g_160.cons m_laws_eqIntS
noncomputable def laws_eqVtab (a0 : Vtab) (b1 : Vtab) : Option Bool :=
  (laws_eqVrowS a0.1 b1.1).bind fun t9 =>
  cond (!t9)
    (some false)
    ((laws_eqIntS a0.2 b1.2).bind fun t15 =>
    cond (!t15) (some false) (some true))
noncomputable def F_laws_eqVtab : Fn := ⟨[.val true cVtab false, .val true cVtab false], [.val false (.one .bool) true], fun a => laws_eqVtab a.1 a.2⟩
def a_laws_eqVtab : List (Nat × LoopAnn) := []
theorem e_laws_eqVtab : fnDen ⟨tis, fns_161⟩ a_laws_eqVtab Try.f83 (codeOf Try.f83) [.val true cVtab false, .val true cVtab false] [.val false (.one .bool) true] = fun a => laws_eqVtab a.1 a.2 := by kernel_rfl
theorem m_laws_eqVtab : Meets Try.prog 83 F_laws_eqVtab := by
  have h := meets_of (ann := a_laws_eqVtab) (ps := [.val true cVtab false, .val true cVtab false]) (rs := [.val false (.one .bool) true]) g_161 mixed Try.func83 (by kernel_rfl) (by kernel_rfl : Try.f83.body = some (codeOf Try.f83))
  rw [e_laws_eqVtab] at h
  exact h
noncomputable def fns_83 : List (FuncId × Fn) := (83, F_laws_eqVtab) :: fns_161
theorem g_83 : Good Try.prog ⟨tis, fns_83⟩ := g_161.cons m_laws_eqVtab
noncomputable def laws_eqBridge (a0 : Bridge) (b1 : Bridge) : Option Bool :=
  cond (a0.1 != b1.1)
    (some false)
    (cond (!(a0.2.1 == b1.2.1))
      (some false)
      ((laws_eqPtS a0.2.2.1 b1.2.2.1).bind fun t19 =>
      cond (!t19)
        (some false)
        ((laws_eqFentS a0.2.2.2.1 b1.2.2.2.1).bind fun t25 =>
        cond (!t25)
          (some false)
          ((laws_eqVtab (a0.2.2.2.2.1, a0.2.2.2.2.2.1) (b1.2.2.2.2.1, b1.2.2.2.2.2.1)).bind fun t31 =>
          cond (!t31)
            (some false)
            (cond (a0.2.2.2.2.2.2.1 != b1.2.2.2.2.2.2.1)
              (some false)
              (cond (a0.2.2.2.2.2.2.2.1 != b1.2.2.2.2.2.2.2.1)
                (some false)
                (cond (a0.2.2.2.2.2.2.2.2.1 != b1.2.2.2.2.2.2.2.2.1)
                  (some false)
                  (cond (a0.2.2.2.2.2.2.2.2.2.1 != b1.2.2.2.2.2.2.2.2.2.1)
                    (some false)
                    (cond (a0.2.2.2.2.2.2.2.2.2.2 != b1.2.2.2.2.2.2.2.2.2.2) (some false) (some true))))))))))
noncomputable def F_laws_eqBridge : Fn := ⟨[.val true cBridge false, .val true cBridge false], [.val false (.one .bool) true], fun a => laws_eqBridge a.1 a.2⟩
def a_laws_eqBridge : List (Nat × LoopAnn) := []
theorem e_laws_eqBridge : fnDen ⟨tis, fns_83⟩ a_laws_eqBridge Try.f22 (codeOf Try.f22) [.val true cBridge false, .val true cBridge false] [.val false (.one .bool) true] = fun a => laws_eqBridge a.1 a.2 := by kernel_rfl
theorem m_laws_eqBridge : Meets Try.prog 22 F_laws_eqBridge := by
  have h := meets_of (ann := a_laws_eqBridge) (ps := [.val true cBridge false, .val true cBridge false]) (rs := [.val false (.one .bool) true]) g_83 mixed Try.func22 (by kernel_rfl) (by kernel_rfl : Try.f22.body = some (codeOf Try.f22))
  rw [e_laws_eqBridge] at h
  exact h
noncomputable def fns_22 : List (FuncId × Fn) := (22, F_laws_eqBridge) :: fns_83
theorem g_22 : Good Try.prog ⟨tis, fns_22⟩ := g_83.cons m_laws_eqBridge
noncomputable def laws_eqBridgeS_l0 (a0 : List Bridge) (b1 : List Bridge) (i5 : Int) : Option (Int ⊕ (Unit ⊕ Bool)) :=
  cond (decide (i5 < (a0.length : Int)))
    ((at? a0 i5).bind fun x19 =>
    (at? b1 i5).bind fun x23 =>
    (laws_eqBridge x19 x23).bind fun t25 =>
    cond (!t25) (some (.inr (.inr false))) (some (.inl (w64 (i5 + 1)))))
    (some (.inr (.inl ())))
noncomputable def laws_eqBridgeS (a0 : List Bridge) (b1 : List Bridge) : Option Bool :=
  cond ((a0.length : Int) != (b1.length : Int))
    (some false)
    ((loop (fun z => laws_eqBridgeS_l0 a0 b1 z) 0).bind (Sum.elim (fun d =>
      some true) (fun r => some r)))
noncomputable def F_laws_eqBridgeS : Fn := ⟨[.val false (.one (.sl cBridge)) false, .val false (.one (.sl cBridge)) false], [.val false (.one .bool) true], fun a => laws_eqBridgeS a.1 a.2⟩
def a_laws_eqBridgeS : List (Nat × LoopAnn) := [(0, ⟨⟨[(5, false, [.dat (.int .i64)])], []⟩,
    ⟨[], []⟩, some ⟨[(4, false, [.dat .bool])], []⟩⟩)]
theorem e_laws_eqBridgeS : fnDen ⟨tis, fns_22⟩ a_laws_eqBridgeS Try.f118 (codeOf Try.f118) [.val false (.one (.sl cBridge)) false, .val false (.one (.sl cBridge)) false] [.val false (.one .bool) true] = fun a => laws_eqBridgeS a.1 a.2 := by kernel_rfl
theorem m_laws_eqBridgeS : Meets Try.prog 118 F_laws_eqBridgeS := by
  have h := meets_of (ann := a_laws_eqBridgeS) (ps := [.val false (.one (.sl cBridge)) false, .val false (.one (.sl cBridge)) false]) (rs := [.val false (.one .bool) true]) g_22 mixed Try.func118 (by kernel_rfl) (by kernel_rfl : Try.f118.body = some (codeOf Try.f118))
  rw [e_laws_eqBridgeS] at h
  exact h
noncomputable def fns_118 : List (FuncId × Fn) := (118, F_laws_eqBridgeS) :: fns_22
theorem g_118 : Good Try.prog ⟨tis, fns_118⟩ := g_22.cons m_laws_eqBridgeS
noncomputable def laws_eqLink (a0 : Link) (b1 : Link) : Option Bool :=
  cond (a0.1 != b1.1)
    (some false)
    (cond (a0.2.1 != b1.2.1)
      (some false)
      (cond (a0.2.2.1 != b1.2.2.1)
        (some false)
        (cond (a0.2.2.2 != b1.2.2.2) (some false) (some true))))
noncomputable def F_laws_eqLink : Fn := ⟨[.val true cLink false, .val true cLink false], [.val false (.one .bool) true], fun a => laws_eqLink a.1 a.2⟩
def a_laws_eqLink : List (Nat × LoopAnn) := []
theorem e_laws_eqLink : fnDen ⟨tis, fns_118⟩ a_laws_eqLink Try.f190 (codeOf Try.f190) [.val true cLink false, .val true cLink false] [.val false (.one .bool) true] = fun a => laws_eqLink a.1 a.2 := by kernel_rfl
theorem m_laws_eqLink : Meets Try.prog 190 F_laws_eqLink := by
  have h := meets_of (ann := a_laws_eqLink) (ps := [.val true cLink false, .val true cLink false]) (rs := [.val false (.one .bool) true]) g_118 mixed Try.func190 (by kernel_rfl) (by kernel_rfl : Try.f190.body = some (codeOf Try.f190))
  rw [e_laws_eqLink] at h
  exact h
noncomputable def fns_190 : List (FuncId × Fn) := (190, F_laws_eqLink) :: fns_118
theorem g_190 : Good Try.prog ⟨tis, fns_190⟩ := g_118.cons m_laws_eqLink
noncomputable def laws_eqLinkS_l0 (a0 : List Link) (b1 : List Link) (i5 : Int) : Option (Int ⊕ (Unit ⊕ Bool)) :=
  cond (decide (i5 < (a0.length : Int)))
    ((at? a0 i5).bind fun x19 =>
    (at? b1 i5).bind fun x23 =>
    (laws_eqLink x19 x23).bind fun t25 =>
    cond (!t25) (some (.inr (.inr false))) (some (.inl (w64 (i5 + 1)))))
    (some (.inr (.inl ())))
noncomputable def laws_eqLinkS (a0 : List Link) (b1 : List Link) : Option Bool :=
  cond ((a0.length : Int) != (b1.length : Int))
    (some false)
    ((loop (fun z => laws_eqLinkS_l0 a0 b1 z) 0).bind (Sum.elim (fun d =>
      some true) (fun r => some r)))
noncomputable def F_laws_eqLinkS : Fn := ⟨[.val false (.one (.sl cLink)) false, .val false (.one (.sl cLink)) false], [.val false (.one .bool) true], fun a => laws_eqLinkS a.1 a.2⟩
def a_laws_eqLinkS : List (Nat × LoopAnn) := [(0, ⟨⟨[(5, false, [.dat (.int .i64)])], []⟩,
    ⟨[], []⟩, some ⟨[(4, false, [.dat .bool])], []⟩⟩)]
theorem e_laws_eqLinkS : fnDen ⟨tis, fns_190⟩ a_laws_eqLinkS Try.f119 (codeOf Try.f119) [.val false (.one (.sl cLink)) false, .val false (.one (.sl cLink)) false] [.val false (.one .bool) true] = fun a => laws_eqLinkS a.1 a.2 := by kernel_rfl
theorem m_laws_eqLinkS : Meets Try.prog 119 F_laws_eqLinkS := by
  have h := meets_of (ann := a_laws_eqLinkS) (ps := [.val false (.one (.sl cLink)) false, .val false (.one (.sl cLink)) false]) (rs := [.val false (.one .bool) true]) g_190 mixed Try.func119 (by kernel_rfl) (by kernel_rfl : Try.f119.body = some (codeOf Try.f119))
  rw [e_laws_eqLinkS] at h
  exact h
noncomputable def fns_119 : List (FuncId × Fn) := (119, F_laws_eqLinkS) :: fns_190
theorem g_119 : Good Try.prog ⟨tis, fns_119⟩ := g_190.cons m_laws_eqLinkS
noncomputable def laws_eqSay (a0 : Say) (b1 : Say) : Option Bool :=
  cond (a0.1 != b1.1)
    (some false)
    (cond (!(a0.2.1 == b1.2.1))
      (some false)
      ((laws_eqVec a0.2.2 b1.2.2).bind fun t19 =>
      cond (!t19) (some false) (some true)))
noncomputable def F_laws_eqSay : Fn := ⟨[.val true cSay false, .val true cSay false], [.val false (.one .bool) true], fun a => laws_eqSay a.1 a.2⟩
def a_laws_eqSay : List (Nat × LoopAnn) := []
theorem e_laws_eqSay : fnDen ⟨tis, fns_119⟩ a_laws_eqSay Try.f191 (codeOf Try.f191) [.val true cSay false, .val true cSay false] [.val false (.one .bool) true] = fun a => laws_eqSay a.1 a.2 := by kernel_rfl
theorem m_laws_eqSay : Meets Try.prog 191 F_laws_eqSay := by
  have h := meets_of (ann := a_laws_eqSay) (ps := [.val true cSay false, .val true cSay false]) (rs := [.val false (.one .bool) true]) g_119 mixed Try.func191 (by kernel_rfl) (by kernel_rfl : Try.f191.body = some (codeOf Try.f191))
  rw [e_laws_eqSay] at h
  exact h
noncomputable def fns_191 : List (FuncId × Fn) := (191, F_laws_eqSay) :: fns_119
theorem g_191 : Good Try.prog ⟨tis, fns_191⟩ := g_119.cons m_laws_eqSay
noncomputable def laws_eqSayS_l0 (a0 : List Say) (b1 : List Say) (i5 : Int) : Option (Int ⊕ (Unit ⊕ Bool)) :=
  cond (decide (i5 < (a0.length : Int)))
    ((at? a0 i5).bind fun x19 =>
    (at? b1 i5).bind fun x23 =>
    (laws_eqSay x19 x23).bind fun t25 =>
    cond (!t25) (some (.inr (.inr false))) (some (.inl (w64 (i5 + 1)))))
    (some (.inr (.inl ())))
noncomputable def laws_eqSayS (a0 : List Say) (b1 : List Say) : Option Bool :=
  cond ((a0.length : Int) != (b1.length : Int))
    (some false)
    ((loop (fun z => laws_eqSayS_l0 a0 b1 z) 0).bind (Sum.elim (fun d =>
      some true) (fun r => some r)))
noncomputable def F_laws_eqSayS : Fn := ⟨[.val false (.one (.sl cSay)) false, .val false (.one (.sl cSay)) false], [.val false (.one .bool) true], fun a => laws_eqSayS a.1 a.2⟩
def a_laws_eqSayS : List (Nat × LoopAnn) := [(0, ⟨⟨[(5, false, [.dat (.int .i64)])], []⟩,
    ⟨[], []⟩, some ⟨[(4, false, [.dat .bool])], []⟩⟩)]
theorem e_laws_eqSayS : fnDen ⟨tis, fns_191⟩ a_laws_eqSayS Try.f120 (codeOf Try.f120) [.val false (.one (.sl cSay)) false, .val false (.one (.sl cSay)) false] [.val false (.one .bool) true] = fun a => laws_eqSayS a.1 a.2 := by kernel_rfl
theorem m_laws_eqSayS : Meets Try.prog 120 F_laws_eqSayS := by
  have h := meets_of (ann := a_laws_eqSayS) (ps := [.val false (.one (.sl cSay)) false, .val false (.one (.sl cSay)) false]) (rs := [.val false (.one .bool) true]) g_191 mixed Try.func120 (by kernel_rfl) (by kernel_rfl : Try.f120.body = some (codeOf Try.f120))
  rw [e_laws_eqSayS] at h
  exact h
noncomputable def fns_120 : List (FuncId × Fn) := (120, F_laws_eqSayS) :: fns_191
theorem g_120 : Good Try.prog ⟨tis, fns_120⟩ := g_191.cons m_laws_eqSayS
noncomputable def laws_eqNet (a0 : Net) (b1 : Net) : Option Bool :=
  (laws_eqBridgeS a0.1 b1.1).bind fun t9 =>
  cond (!t9)
    (some false)
    ((laws_eqLinkS a0.2.1 b1.2.1).bind fun t15 =>
    cond (!t15)
      (some false)
      ((laws_eqSayS a0.2.2 b1.2.2).bind fun t21 =>
      cond (!t21) (some false) (some true)))
noncomputable def F_laws_eqNet : Fn := ⟨[.val true cNet false, .val true cNet false], [.val false (.one .bool) true], fun a => laws_eqNet a.1 a.2⟩
def a_laws_eqNet : List (Nat × LoopAnn) := []
theorem e_laws_eqNet : fnDen ⟨tis, fns_120⟩ a_laws_eqNet Try.f45 (codeOf Try.f45) [.val true cNet false, .val true cNet false] [.val false (.one .bool) true] = fun a => laws_eqNet a.1 a.2 := by kernel_rfl
theorem m_laws_eqNet : Meets Try.prog 45 F_laws_eqNet := by
  have h := meets_of (ann := a_laws_eqNet) (ps := [.val true cNet false, .val true cNet false]) (rs := [.val false (.one .bool) true]) g_120 mixed Try.func45 (by kernel_rfl) (by kernel_rfl : Try.f45.body = some (codeOf Try.f45))
  rw [e_laws_eqNet] at h
  exact h
noncomputable def fns_45 : List (FuncId × Fn) := (45, F_laws_eqNet) :: fns_120
theorem g_45 : Good Try.prog ⟨tis, fns_45⟩ := g_120.cons m_laws_eqNet
noncomputable def laws_FnExactOneSpeaks (aN0 : Net) : Option Bool :=
  (laws_szNet aN0 1048576).bind fun t9 =>
  cond (decide (t9 < 0))
    (some true)
    ((laws_toNet aN0).bind fun t13 =>
    (spec_OneSpeaks t13).bind fun t14 =>
    (laws_toNet aN0).bind fun t16 =>
    (impl_OneSpeaks t16).bind fun t18 =>
    cond (!(t18 == t14))
      (some false)
      ((laws_toNet aN0).bind fun t24 =>
      (laws_eqNet t16 t24).bind fun t25 =>
      cond (!t25) (some false) (some true)))
noncomputable def F_laws_FnExactOneSpeaks : Fn := ⟨[.val true cNet false], [.val false (.one .bool) true], fun a => laws_FnExactOneSpeaks a⟩
def a_laws_FnExactOneSpeaks : List (Nat × LoopAnn) := []
theorem e_laws_FnExactOneSpeaks : fnDen ⟨tis, fns_45⟩ a_laws_FnExactOneSpeaks Try.f8 (codeOf Try.f8) [.val true cNet false] [.val false (.one .bool) true] = fun a => laws_FnExactOneSpeaks a := by kernel_rfl
theorem m_laws_FnExactOneSpeaks : Meets Try.prog 8 F_laws_FnExactOneSpeaks := by
  have h := meets_of (ann := a_laws_FnExactOneSpeaks) (ps := [.val true cNet false]) (rs := [.val false (.one .bool) true]) g_45 mixed Try.func8 (by kernel_rfl) (by kernel_rfl : Try.f8.body = some (codeOf Try.f8))
  rw [e_laws_FnExactOneSpeaks] at h
  exact h
noncomputable def fns_8 : List (FuncId × Fn) := (8, F_laws_FnExactOneSpeaks) :: fns_45
theorem g_8 : Good Try.prog ⟨tis, fns_8⟩ := g_45.cons m_laws_FnExactOneSpeaks
end Go.V.W
