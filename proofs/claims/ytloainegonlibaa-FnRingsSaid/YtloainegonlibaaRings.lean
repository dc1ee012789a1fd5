/- The law FnRings: part of the proof that for every input it returns true. No condition. -/
import Derived.Test.YtloainegonlibaaV3
import Derived.Test.YtloainegonlibaaProg
import Derived.Test.YtloainegonlibaaChecked
import Derived.KernelRfl
namespace Go.V.W
open Go.Proofs
set_option linter.unusedVariables false
@[reducible] def cFent : Cs := .cons (.int .i64) (.cons (.int .i64) (.cons (.int .i64) (.cons (.int .i64) (.one .bool))))
@[reducible] def cVrow : Cs := .cons (.int .i64) (.cons (.int .i64) (.one (.int .i64)))
@[reducible] def cVtab : Cs := .cons (.sl cVrow) (.one (.sl (.one (.int .i64))))
@[reducible] def cVec : Cs := .cons (.int .i64) (.cons (.int .i64) (.cons (.int .i64) (.cons (.int .i64) (.one (.int .i64)))))
@[reducible] def cPt : Cs := .cons .bool (.cons (.int .i64) (.cons .bool (.cons (.int .i64) (.cons (.int .i64) (.cons (.int .i64) (.cons (.int .i64) (.one (.int .i64))))))))
@[reducible] def cBridge : Cs := .cons (.int .i64) (.cons .str (.cons (.sl cPt) (.cons (.sl cFent) (.cons (.sl cVrow) (.cons (.sl (.one (.int .i64))) (.cons (.int .i64) (.cons (.int .i64) (.cons (.int .i64) (.cons (.int .i64) (.one (.int .i64)))))))))))
@[reducible] def cLink : Cs := .cons (.int .i64) (.cons (.int .i64) (.cons (.int .i64) (.one (.int .i64))))
@[reducible] def cSay : Cs := .cons (.int .i64) (.cons .bool (.cons (.int .i64) (.cons (.int .i64) (.cons (.int .i64) (.cons (.int .i64) (.one (.int .i64)))))))
@[reducible] def cNet : Cs := .cons (.sl cBridge) (.cons (.sl cLink) (.one (.sl cSay)))
@[reducible] def cEvent : Cs := .cons (.int .i64) (.one (.int .i64))
abbrev Fent : Type := Int × Int × Int × Int × Bool
abbrev Vrow : Type := Int × Int × Int
abbrev Vtab : Type := List Vrow × List Int
abbrev Vec : Type := Int × Int × Int × Int × Int
abbrev Pt : Type := Bool × Int × Bool × Int × Int × Int × Int × Int
abbrev Bridge : Type := Int × List UInt8 × List Pt × List Fent × List Vrow × List Int × Int × Int × Int × Int × Int
abbrev Link : Type := Int × Int × Int × Int
abbrev Say : Type := Int × Bool × Int × Int × Int × Int × Int
abbrev Net : Type := List Bridge × List Link × List Say
abbrev Event : Type := Int × Int
def tis : List (Nat × TInfo) := [(2, ⟨false, .one (.int .i64), [], 0⟩),
  (3, ⟨false, .one (.int .i64), [], 0⟩),
  (4, ⟨false, .one .bool, [], 0⟩),
  (5, ⟨false, .one (.int .u8), [], 0⟩),
  (6, ⟨false, .one (.int .u8), [], 0⟩),
  (9, ⟨false, .one .str, [], 0⟩),
  (10, ⟨false, .one .str, [], 0⟩),
  (11, ⟨false, .one .str, [], 0⟩),
  (12, ⟨false, .one (.int .u64), [], 0⟩),
  (21, ⟨false, .one (.int .i32), [], 0⟩),
  (22, ⟨false, .one (.sl (.one (.int .u8))), [], 5⟩),
  (24, ⟨false, .one (.sl cPt), [], 114⟩),
  (25, ⟨false, .one (.sl cFent), [], 166⟩),
  (26, ⟨false, .one (.sl cVrow), [], 164⟩),
  (27, ⟨false, .one (.sl (.one (.int .i64))), [], 3⟩),
  (28, ⟨true, cVtab, [(26, 0), (27, 1)], 0⟩),
  (29, ⟨true, cVtab, [(26, 0), (27, 1)], 0⟩),
  (30, ⟨true, cBridge, [(3, 0), (9, 1), (24, 2), (25, 3), (29, 4), (3, 6), (3, 7), (3, 8), (3, 9), (3, 10)], 0⟩),
  (31, ⟨true, cBridge, [(3, 0), (9, 1), (24, 2), (25, 3), (29, 4), (3, 6), (3, 7), (3, 8), (3, 9), (3, 10)], 0⟩),
  (36, ⟨true, .cons (.int .i64) (.cons (.int .i64) (.cons .str (.one (.sl (.one (.int .i64)))))), [(3, 0), (3, 1), (9, 2), (27, 3)], 0⟩),
  (37, ⟨true, .cons (.int .i64) (.cons (.int .i64) (.cons .str (.one (.sl (.one (.int .i64)))))), [(3, 0), (3, 1), (9, 2), (27, 3)], 0⟩),
  (39, ⟨true, .cons (.sl (.one (.int .i64))) (.cons (.int .i64) (.cons (.int .i64) (.cons .str (.one (.sl (.one (.int .i64))))))), [(27, 0), (37, 1)], 0⟩),
  (40, ⟨true, .cons (.sl (.one (.int .i64))) (.cons (.int .i64) (.cons (.int .i64) (.cons .str (.one (.sl (.one (.int .i64))))))), [(27, 0), (37, 1)], 0⟩),
  (41, ⟨false, .one (.sl (.cons (.sl (.one (.int .i64))) (.cons (.int .i64) (.cons (.int .i64) (.cons .str (.one (.sl (.one (.int .i64))))))))), [], 40⟩),
  (43, ⟨false, .one (.sl (.cons (.int .i64) (.cons (.int .i64) (.cons (.int .i64) (.cons (.int .i64) (.one (.sl (.one (.int .u8))))))))), [], 49⟩),
  (46, ⟨true, .cons (.int .i64) (.cons (.int .i64) (.cons (.int .i64) (.one (.sl (.one (.int .u8)))))), [(3, 0), (3, 1), (3, 2), (22, 3)], 0⟩),
  (47, ⟨true, .cons (.int .i64) (.cons (.int .i64) (.cons (.int .i64) (.one (.sl (.one (.int .u8)))))), [(3, 0), (3, 1), (3, 2), (22, 3)], 0⟩),
  (48, ⟨true, .cons (.int .i64) (.cons (.int .i64) (.cons (.int .i64) (.cons (.int .i64) (.one (.sl (.one (.int .u8))))))), [(3, 0), (47, 1)], 0⟩),
  (49, ⟨true, .cons (.int .i64) (.cons (.int .i64) (.cons (.int .i64) (.cons (.int .i64) (.one (.sl (.one (.int .u8))))))), [(3, 0), (47, 1)], 0⟩),
  (50, ⟨false, .one (.sl cPt), [], 202⟩),
  (51, ⟨false, .one (.sl cFent), [], 204⟩),
  (52, ⟨false, .one (.sl cVrow), [], 265⟩),
  (53, ⟨true, cVtab, [(52, 0), (27, 1)], 0⟩),
  (54, ⟨true, cVtab, [(52, 0), (27, 1)], 0⟩),
  (55, ⟨true, cBridge, [(3, 0), (9, 1), (50, 2), (51, 3), (54, 4), (3, 6), (3, 7), (3, 8), (3, 9), (3, 10)], 0⟩),
  (56, ⟨true, cBridge, [(3, 0), (9, 1), (50, 2), (51, 3), (54, 4), (3, 6), (3, 7), (3, 8), (3, 9), (3, 10)], 0⟩),
  (62, ⟨false, .one (.sl (.cons (.int .i64) (.cons (.sl (.one (.int .u8))) (.cons (.int .i64) (.cons (.int .i64) (.cons (.int .i64) (.cons (.int .i64) (.cons (.int .i64) (.cons (.sl (.cons (.sl (.one (.int .i64))) (.cons (.int .i64) (.cons (.int .i64) (.cons .str (.one (.sl (.one (.int .i64))))))))) (.cons (.int .i64) (.cons .str (.cons (.sl cPt) (.cons (.sl cFent) (.cons (.sl cVrow) (.cons (.sl (.one (.int .i64))) (.cons (.int .i64) (.cons (.int .i64) (.cons (.int .i64) (.cons (.int .i64) (.cons (.int .i64) (.cons (.int .i64) (.one (.int .i64))))))))))))))))))))))), [], 222⟩),
  (63, ⟨true, .cons (.int .i64) (.cons .str (.cons (.sl cPt) (.cons (.sl cFent) (.cons (.sl cVrow) (.cons (.sl (.one (.int .i64))) (.cons (.int .i64) (.cons (.int .i64) (.cons (.int .i64) (.cons (.int .i64) (.cons (.int .i64) (.cons .str (.cons (.sl (.cons (.int .i64) (.cons (.sl (.one (.int .u8))) (.cons (.int .i64) (.cons (.int .i64) (.cons (.int .i64) (.cons (.int .i64) (.cons (.int .i64) (.cons (.sl (.cons (.sl (.one (.int .i64))) (.cons (.int .i64) (.cons (.int .i64) (.cons .str (.one (.sl (.one (.int .i64))))))))) (.cons (.int .i64) (.cons .str (.cons (.sl cPt) (.cons (.sl cFent) (.cons (.sl cVrow) (.cons (.sl (.one (.int .i64))) (.cons (.int .i64) (.cons (.int .i64) (.cons (.int .i64) (.cons (.int .i64) (.cons (.int .i64) (.cons (.int .i64) (.one (.int .i64))))))))))))))))))))))) (.cons (.int .i64) (.one (.int .i64))))))))))))))), [(56, 0), (9, 11), (62, 12), (3, 13), (3, 14)], 0⟩),
  (64, ⟨true, .cons (.int .i64) (.cons .str (.cons (.sl cPt) (.cons (.sl cFent) (.cons (.sl cVrow) (.cons (.sl (.one (.int .i64))) (.cons (.int .i64) (.cons (.int .i64) (.cons (.int .i64) (.cons (.int .i64) (.cons (.int .i64) (.cons .str (.cons (.sl (.cons (.int .i64) (.cons (.sl (.one (.int .u8))) (.cons (.int .i64) (.cons (.int .i64) (.cons (.int .i64) (.cons (.int .i64) (.cons (.int .i64) (.cons (.sl (.cons (.sl (.one (.int .i64))) (.cons (.int .i64) (.cons (.int .i64) (.cons .str (.one (.sl (.one (.int .i64))))))))) (.cons (.int .i64) (.cons .str (.cons (.sl cPt) (.cons (.sl cFent) (.cons (.sl cVrow) (.cons (.sl (.one (.int .i64))) (.cons (.int .i64) (.cons (.int .i64) (.cons (.int .i64) (.cons (.int .i64) (.cons (.int .i64) (.cons (.int .i64) (.one (.int .i64))))))))))))))))))))))) (.cons (.int .i64) (.one (.int .i64))))))))))))))), [(56, 0), (9, 11), (62, 12), (3, 13), (3, 14)], 0⟩),
  (67, ⟨false, .one (.sl (.cons (.int .i64) (.cons (.sl (.one (.int .u8))) (.cons (.int .i64) (.cons (.int .i64) (.cons (.int .i64) (.cons (.int .i64) (.cons (.int .i64) (.cons (.sl (.cons (.sl (.one (.int .i64))) (.cons (.int .i64) (.cons (.int .i64) (.cons .str (.one (.sl (.one (.int .i64))))))))) (.cons (.int .i64) (.cons .str (.cons (.sl cPt) (.cons (.sl cFent) (.cons (.sl cVrow) (.cons (.sl (.one (.int .i64))) (.cons (.int .i64) (.cons (.int .i64) (.cons (.int .i64) (.cons (.int .i64) (.cons (.int .i64) (.cons (.int .i64) (.one (.int .i64))))))))))))))))))))))), [], 226⟩),
  (68, ⟨true, .cons (.int .i64) (.cons .str (.cons (.sl cPt) (.cons (.sl cFent) (.cons (.sl cVrow) (.cons (.sl (.one (.int .i64))) (.cons (.int .i64) (.cons (.int .i64) (.cons (.int .i64) (.cons (.int .i64) (.cons (.int .i64) (.cons .str (.cons (.sl (.cons (.int .i64) (.cons (.sl (.one (.int .u8))) (.cons (.int .i64) (.cons (.int .i64) (.cons (.int .i64) (.cons (.int .i64) (.cons (.int .i64) (.cons (.sl (.cons (.sl (.one (.int .i64))) (.cons (.int .i64) (.cons (.int .i64) (.cons .str (.one (.sl (.one (.int .i64))))))))) (.cons (.int .i64) (.cons .str (.cons (.sl cPt) (.cons (.sl cFent) (.cons (.sl cVrow) (.cons (.sl (.one (.int .i64))) (.cons (.int .i64) (.cons (.int .i64) (.cons (.int .i64) (.cons (.int .i64) (.cons (.int .i64) (.cons (.int .i64) (.one (.int .i64))))))))))))))))))))))) (.cons (.int .i64) (.one (.int .i64))))))))))))))), [(31, 0), (9, 11), (67, 12), (3, 13), (3, 14)], 0⟩),
  (69, ⟨true, .cons (.int .i64) (.cons .str (.cons (.sl cPt) (.cons (.sl cFent) (.cons (.sl cVrow) (.cons (.sl (.one (.int .i64))) (.cons (.int .i64) (.cons (.int .i64) (.cons (.int .i64) (.cons (.int .i64) (.cons (.int .i64) (.cons .str (.cons (.sl (.cons (.int .i64) (.cons (.sl (.one (.int .u8))) (.cons (.int .i64) (.cons (.int .i64) (.cons (.int .i64) (.cons (.int .i64) (.cons (.int .i64) (.cons (.sl (.cons (.sl (.one (.int .i64))) (.cons (.int .i64) (.cons (.int .i64) (.cons .str (.one (.sl (.one (.int .i64))))))))) (.cons (.int .i64) (.cons .str (.cons (.sl cPt) (.cons (.sl cFent) (.cons (.sl cVrow) (.cons (.sl (.one (.int .i64))) (.cons (.int .i64) (.cons (.int .i64) (.cons (.int .i64) (.cons (.int .i64) (.cons (.int .i64) (.cons (.int .i64) (.one (.int .i64))))))))))))))))))))))) (.cons (.int .i64) (.one (.int .i64))))))))))))))), [(31, 0), (9, 11), (67, 12), (3, 13), (3, 14)], 0⟩),
  (73, ⟨false, .one (.sl cBridge), [], 31⟩),
  (74, ⟨false, .one (.sl cLink), [], 148⟩),
  (75, ⟨false, .one (.sl cSay), [], 234⟩),
  (76, ⟨true, cNet, [(73, 0), (74, 1), (75, 2)], 0⟩),
  (77, ⟨true, cNet, [(73, 0), (74, 1), (75, 2)], 0⟩),
  (84, ⟨true, cEvent, [(3, 0), (3, 1)], 0⟩),
  (85, ⟨true, cEvent, [(3, 0), (3, 1)], 0⟩),
  (95, ⟨false, .one (.sl cBridge), [], 56⟩),
  (96, ⟨false, .one (.sl cLink), [], 252⟩),
  (97, ⟨false, .one (.sl cSay), [], 255⟩),
  (98, ⟨true, cNet, [(95, 0), (96, 1), (97, 2)], 0⟩),
  (99, ⟨true, cNet, [(95, 0), (96, 1), (97, 2)], 0⟩),
  (111, ⟨true, cVec, [(3, 0), (3, 1), (3, 2), (3, 3), (3, 4)], 0⟩),
  (112, ⟨true, cVec, [(3, 0), (3, 1), (3, 2), (3, 3), (3, 4)], 0⟩),
  (113, ⟨true, cPt, [(4, 0), (3, 1), (4, 2), (112, 3)], 0⟩),
  (114, ⟨true, cPt, [(4, 0), (3, 1), (4, 2), (112, 3)], 0⟩),
  (138, ⟨false, .one (.sl (.one .str)), [], 9⟩),
  (147, ⟨true, cLink, [(3, 0), (3, 1), (3, 2), (3, 3)], 0⟩),
  (148, ⟨true, cLink, [(3, 0), (3, 1), (3, 2), (3, 3)], 0⟩),
  (163, ⟨true, cVrow, [(3, 0), (3, 1), (3, 2)], 0⟩),
  (164, ⟨true, cVrow, [(3, 0), (3, 1), (3, 2)], 0⟩),
  (165, ⟨true, cFent, [(3, 0), (3, 1), (3, 2), (3, 3), (4, 4)], 0⟩),
  (166, ⟨true, cFent, [(3, 0), (3, 1), (3, 2), (3, 3), (4, 4)], 0⟩),
  (200, ⟨true, cVec, [(3, 0), (3, 1), (3, 2), (3, 3), (3, 4)], 0⟩),
  (201, ⟨true, cPt, [(4, 0), (3, 1), (4, 2), (200, 3)], 0⟩),
  (202, ⟨true, cPt, [(4, 0), (3, 1), (4, 2), (200, 3)], 0⟩),
  (204, ⟨true, cFent, [(3, 0), (3, 1), (3, 2), (3, 3), (4, 4)], 0⟩),
  (210, ⟨false, .one .err, [], 0⟩),
  (218, ⟨false, .one (.sl (.cons (.sl (.one (.int .i64))) (.cons (.int .i64) (.cons (.int .i64) (.cons .str (.one (.sl (.one (.int .i64))))))))), [], 293⟩),
  (219, ⟨true, .cons (.int .i64) (.cons (.int .i64) (.cons (.int .i64) (.cons (.int .i64) (.one (.sl (.cons (.sl (.one (.int .i64))) (.cons (.int .i64) (.cons (.int .i64) (.cons .str (.one (.sl (.one (.int .i64))))))))))))), [(3, 0), (3, 1), (3, 2), (3, 3), (218, 4)], 0⟩),
  (220, ⟨true, .cons (.int .i64) (.cons (.int .i64) (.cons (.int .i64) (.cons (.int .i64) (.one (.sl (.cons (.sl (.one (.int .i64))) (.cons (.int .i64) (.cons (.int .i64) (.cons .str (.one (.sl (.one (.int .i64))))))))))))), [(3, 0), (3, 1), (3, 2), (3, 3), (218, 4)], 0⟩),
  (221, ⟨true, .cons (.int .i64) (.cons (.sl (.one (.int .u8))) (.cons (.int .i64) (.cons (.int .i64) (.cons (.int .i64) (.cons (.int .i64) (.cons (.int .i64) (.cons (.sl (.cons (.sl (.one (.int .i64))) (.cons (.int .i64) (.cons (.int .i64) (.cons .str (.one (.sl (.one (.int .i64))))))))) (.cons (.int .i64) (.cons .str (.cons (.sl cPt) (.cons (.sl cFent) (.cons (.sl cVrow) (.cons (.sl (.one (.int .i64))) (.cons (.int .i64) (.cons (.int .i64) (.cons (.int .i64) (.cons (.int .i64) (.cons (.int .i64) (.cons (.int .i64) (.one (.int .i64))))))))))))))))))))), [(3, 0), (22, 1), (3, 2), (220, 3), (56, 8), (3, 19), (3, 20)], 0⟩),
  (222, ⟨true, .cons (.int .i64) (.cons (.sl (.one (.int .u8))) (.cons (.int .i64) (.cons (.int .i64) (.cons (.int .i64) (.cons (.int .i64) (.cons (.int .i64) (.cons (.sl (.cons (.sl (.one (.int .i64))) (.cons (.int .i64) (.cons (.int .i64) (.cons .str (.one (.sl (.one (.int .i64))))))))) (.cons (.int .i64) (.cons .str (.cons (.sl cPt) (.cons (.sl cFent) (.cons (.sl cVrow) (.cons (.sl (.one (.int .i64))) (.cons (.int .i64) (.cons (.int .i64) (.cons (.int .i64) (.cons (.int .i64) (.cons (.int .i64) (.cons (.int .i64) (.one (.int .i64))))))))))))))))))))), [(3, 0), (22, 1), (3, 2), (220, 3), (56, 8), (3, 19), (3, 20)], 0⟩),
  (223, ⟨true, .cons (.int .i64) (.cons (.int .i64) (.cons (.int .i64) (.cons (.int .i64) (.one (.sl (.cons (.sl (.one (.int .i64))) (.cons (.int .i64) (.cons (.int .i64) (.cons .str (.one (.sl (.one (.int .i64))))))))))))), [(3, 0), (3, 1), (3, 2), (3, 3), (41, 4)], 0⟩),
  (224, ⟨true, .cons (.int .i64) (.cons (.int .i64) (.cons (.int .i64) (.cons (.int .i64) (.one (.sl (.cons (.sl (.one (.int .i64))) (.cons (.int .i64) (.cons (.int .i64) (.cons .str (.one (.sl (.one (.int .i64))))))))))))), [(3, 0), (3, 1), (3, 2), (3, 3), (41, 4)], 0⟩),
  (225, ⟨true, .cons (.int .i64) (.cons (.sl (.one (.int .u8))) (.cons (.int .i64) (.cons (.int .i64) (.cons (.int .i64) (.cons (.int .i64) (.cons (.int .i64) (.cons (.sl (.cons (.sl (.one (.int .i64))) (.cons (.int .i64) (.cons (.int .i64) (.cons .str (.one (.sl (.one (.int .i64))))))))) (.cons (.int .i64) (.cons .str (.cons (.sl cPt) (.cons (.sl cFent) (.cons (.sl cVrow) (.cons (.sl (.one (.int .i64))) (.cons (.int .i64) (.cons (.int .i64) (.cons (.int .i64) (.cons (.int .i64) (.cons (.int .i64) (.cons (.int .i64) (.one (.int .i64))))))))))))))))))))), [(3, 0), (22, 1), (3, 2), (224, 3), (31, 8), (3, 19), (3, 20)], 0⟩),
  (226, ⟨true, .cons (.int .i64) (.cons (.sl (.one (.int .u8))) (.cons (.int .i64) (.cons (.int .i64) (.cons (.int .i64) (.cons (.int .i64) (.cons (.int .i64) (.cons (.sl (.cons (.sl (.one (.int .i64))) (.cons (.int .i64) (.cons (.int .i64) (.cons .str (.one (.sl (.one (.int .i64))))))))) (.cons (.int .i64) (.cons .str (.cons (.sl cPt) (.cons (.sl cFent) (.cons (.sl cVrow) (.cons (.sl (.one (.int .i64))) (.cons (.int .i64) (.cons (.int .i64) (.cons (.int .i64) (.cons (.int .i64) (.cons (.int .i64) (.cons (.int .i64) (.one (.int .i64))))))))))))))))))))), [(3, 0), (22, 1), (3, 2), (224, 3), (31, 8), (3, 19), (3, 20)], 0⟩),
  (233, ⟨true, cSay, [(3, 0), (4, 1), (112, 2)], 0⟩),
  (234, ⟨true, cSay, [(3, 0), (4, 1), (112, 2)], 0⟩),
  (239, ⟨true, .cons (.sl (.one (.int .u8))) (.cons (.int .i64) (.one (.int .i64))), [(22, 0), (3, 1), (3, 2)], 0⟩),
  (240, ⟨true, .cons (.sl (.one (.int .u8))) (.cons (.int .i64) (.one (.int .i64))), [(22, 0), (3, 1), (3, 2)], 0⟩),
  (252, ⟨true, cLink, [(3, 0), (3, 1), (3, 2), (3, 3)], 0⟩),
  (254, ⟨true, cSay, [(3, 0), (4, 1), (200, 2)], 0⟩),
  (255, ⟨true, cSay, [(3, 0), (4, 1), (200, 2)], 0⟩),
  (265, ⟨true, cVrow, [(3, 0), (3, 1), (3, 2)], 0⟩),
  (273, ⟨false, .one (.sl (.one .bool)), [], 4⟩),
  (281, ⟨false, .one (.int .u64), [], 0⟩),
  (291, ⟨true, .cons (.int .i64) (.cons (.int .i64) (.cons .str (.one (.sl (.one (.int .i64)))))), [(3, 0), (3, 1), (9, 2), (27, 3)], 0⟩),
  (292, ⟨true, .cons (.sl (.one (.int .i64))) (.cons (.int .i64) (.cons (.int .i64) (.cons .str (.one (.sl (.one (.int .i64))))))), [(27, 0), (291, 1)], 0⟩),
  (293, ⟨true, .cons (.sl (.one (.int .i64))) (.cons (.int .i64) (.cons (.int .i64) (.cons .str (.one (.sl (.one (.int .i64))))))), [(27, 0), (291, 1)], 0⟩),
  (304, ⟨false, .one (.int .u32), [], 0⟩),
  (305, ⟨false, .one (.int .u8), [], 0⟩),
  (306, ⟨false, .one (.int .u8), [], 0⟩),
  (308, ⟨false, .one (.int .i32), [], 0⟩),
  (309, ⟨false, .one (.int .i32), [], 0⟩)]
theorem tisT : Tis Try.prog tis := Tis.of_all (by kernel_rfl)
theorem tisE : Eqs Try.prog tis := Eqs.of_all (by kernel_rfl)
theorem tisD : Deep Try.prog tis := Deep.of_all (by kernel_rfl)
theorem mixed : Try.prog.follows .mixedOrders = true := by kernel_rfl
def codeOf (fn : Func) : Code := match fn.body with | some c => c | none => .skip
theorem g_0 : Good Try.prog ⟨tis, []⟩ := ⟨tisT, tisE, fun f F h => by cases h⟩
noncomputable def laws_big (code0 : List Int) : Option Bool :=
  let t2 := decide ((code0.length : Int) > 1048576)
  some t2
noncomputable def F_laws_big : Fn := ⟨[.val false (.one (.sl (.one (.int .u8)))) false], [.val false (.one .bool) true], fun a => laws_big a⟩
def a_laws_big : List (Nat × LoopAnn) := []
theorem e_laws_big : fnDen ⟨tis, []⟩ a_laws_big Try.f11 (codeOf Try.f11) [.val false (.one (.sl (.one (.int .u8)))) false] [.val false (.one .bool) true] = fun a => laws_big a := by kernel_rfl
theorem m_laws_big : Meets Try.prog 11 F_laws_big := by
  have h := meets_of (ann := a_laws_big) (ps := [.val false (.one (.sl (.one (.int .u8)))) false]) (rs := [.val false (.one .bool) true]) g_0 mixed Try.func11 (by kernel_rfl) (by kernel_rfl : Try.f11.body = some (codeOf Try.f11))
  rw [e_laws_big] at h
  exact h
noncomputable def fns_11 : List (FuncId × Fn) := (11, F_laws_big) :: []
theorem g_11 : Good Try.prog ⟨tis, fns_11⟩ := g_0.cons m_laws_big
noncomputable def laws_at (code0 : List Int) (i1 : Int) : Option Int :=
  cond (decide (i1 < (code0.length : Int)))
    ((at? code0 i1).bind fun x11 =>
    some (w64 (x11)))
    (let t4 := (w64 ((w64 (i1 * 31)) + (w64 ((code0.length : Int) * 7)))).tmod 256
    some t4)
noncomputable def F_laws_at : Fn := ⟨[.val false (.one (.sl (.one (.int .u8)))) false, .val false (.one (.int .i64)) false], [.val false (.one (.int .i64)) true], fun a => laws_at a.1 a.2⟩
def a_laws_at : List (Nat × LoopAnn) := []
theorem e_laws_at : fnDen ⟨tis, fns_11⟩ a_laws_at Try.f16 (codeOf Try.f16) [.val false (.one (.sl (.one (.int .u8)))) false, .val false (.one (.int .i64)) false] [.val false (.one (.int .i64)) true] = fun a => laws_at a.1 a.2 := by kernel_rfl
theorem m_laws_at : Meets Try.prog 16 F_laws_at := by
  have h := meets_of (ann := a_laws_at) (ps := [.val false (.one (.sl (.one (.int .u8)))) false, .val false (.one (.int .i64)) false]) (rs := [.val false (.one (.int .i64)) true]) g_11 mixed Try.func16 (by kernel_rfl) (by kernel_rfl : Try.f16.body = some (codeOf Try.f16))
  rw [e_laws_at] at h
  exact h
noncomputable def fns_16 : List (FuncId × Fn) := (16, F_laws_at) :: fns_11
theorem g_16 : Good Try.prog ⟨tis, fns_16⟩ := g_11.cons m_laws_at
noncomputable def impl_copyFdb (l0 : List Fent) : Option (List Fent) :=
  (app [] l0).bind fun zs4 =>
  some zs4
noncomputable def F_impl_copyFdb : Fn := ⟨[.val false (.one (.sl cFent)) false], [.val false (.one (.sl cFent)) true], fun a => impl_copyFdb a⟩
def a_impl_copyFdb : List (Nat × LoopAnn) := []
theorem e_impl_copyFdb : fnDen ⟨tis, fns_16⟩ a_impl_copyFdb Try.f128 (codeOf Try.f128) [.val false (.one (.sl cFent)) false] [.val false (.one (.sl cFent)) true] = fun a => impl_copyFdb a := by kernel_rfl
theorem m_impl_copyFdb : Meets Try.prog 128 F_impl_copyFdb := by
  have h := meets_of (ann := a_impl_copyFdb) (ps := [.val false (.one (.sl cFent)) false]) (rs := [.val false (.one (.sl cFent)) true]) g_16 mixed Try.func128 (by kernel_rfl) (by kernel_rfl : Try.f128.body = some (codeOf Try.f128))
  rw [e_impl_copyFdb] at h
  exact h
noncomputable def fns_128 : List (FuncId × Fn) := (128, F_impl_copyFdb) :: fns_16
theorem g_128 : Good Try.prog ⟨tis, fns_128⟩ := g_16.cons m_impl_copyFdb
noncomputable def impl_copyInts (l0 : List Int) : Option (List Int) :=
  (app [] l0).bind fun zs4 =>
  some zs4
noncomputable def F_impl_copyInts : Fn := ⟨[.val false (.one (.sl (.one (.int .i64)))) false], [.val false (.one (.sl (.one (.int .i64)))) true], fun a => impl_copyInts a⟩
def a_impl_copyInts : List (Nat × LoopAnn) := []
theorem e_impl_copyInts : fnDen ⟨tis, fns_128⟩ a_impl_copyInts Try.f186 (codeOf Try.f186) [.val false (.one (.sl (.one (.int .i64)))) false] [.val false (.one (.sl (.one (.int .i64)))) true] = fun a => impl_copyInts a := by kernel_rfl
theorem m_impl_copyInts : Meets Try.prog 186 F_impl_copyInts := by
  have h := meets_of (ann := a_impl_copyInts) (ps := [.val false (.one (.sl (.one (.int .i64)))) false]) (rs := [.val false (.one (.sl (.one (.int .i64)))) true]) g_128 mixed Try.func186 (by kernel_rfl) (by kernel_rfl : Try.f186.body = some (codeOf Try.f186))
  rw [e_impl_copyInts] at h
  exact h
noncomputable def fns_186 : List (FuncId × Fn) := (186, F_impl_copyInts) :: fns_128
theorem g_186 : Good Try.prog ⟨tis, fns_186⟩ := g_128.cons m_impl_copyInts
noncomputable def impl_copyVtab (v0 : Vtab) : Option Vtab :=
  (app [] v0.1).bind fun zs5 =>
  (impl_copyInts v0.2).bind fun t8 =>
  some (zs5, t8)
noncomputable def F_impl_copyVtab : Fn := ⟨[.val true cVtab false], [.val true cVtab true], fun a => impl_copyVtab a⟩
def a_impl_copyVtab : List (Nat × LoopAnn) := []
theorem e_impl_copyVtab : fnDen ⟨tis, fns_186⟩ a_impl_copyVtab Try.f129 (codeOf Try.f129) [.val true cVtab false] [.val true cVtab true] = fun a => impl_copyVtab a := by kernel_rfl
theorem m_impl_copyVtab : Meets Try.prog 129 F_impl_copyVtab := by
  have h := meets_of (ann := a_impl_copyVtab) (ps := [.val true cVtab false]) (rs := [.val true cVtab true]) g_186 mixed Try.func129 (by kernel_rfl) (by kernel_rfl : Try.f129.body = some (codeOf Try.f129))
  rw [e_impl_copyVtab] at h
  exact h
noncomputable def fns_129 : List (FuncId × Fn) := (129, F_impl_copyVtab) :: fns_186
theorem g_129 : Good Try.prog ⟨tis, fns_129⟩ := g_186.cons m_impl_copyVtab
noncomputable def impl_copyBridge (b0 : Bridge) : Option Bridge :=
  (app [] b0.2.2.1).bind fun zs5 =>
  (impl_copyFdb b0.2.2.2.1).bind fun t9 =>
  (impl_copyVtab (b0.2.2.2.2.1, b0.2.2.2.2.2.1)).bind fun t12 =>
  some (b0.1, b0.2.1, zs5, t9, t12.1, t12.2, b0.2.2.2.2.2.2.1, b0.2.2.2.2.2.2.2.1, b0.2.2.2.2.2.2.2.2.1, b0.2.2.2.2.2.2.2.2.2.1, b0.2.2.2.2.2.2.2.2.2.2)
noncomputable def F_impl_copyBridge : Fn := ⟨[.val true cBridge false], [.val true cBridge true], fun a => impl_copyBridge a⟩
def a_impl_copyBridge : List (Nat × LoopAnn) := []
theorem e_impl_copyBridge : fnDen ⟨tis, fns_129⟩ a_impl_copyBridge Try.f56 (codeOf Try.f56) [.val true cBridge false] [.val true cBridge true] = fun a => impl_copyBridge a := by kernel_rfl
theorem m_impl_copyBridge : Meets Try.prog 56 F_impl_copyBridge := by
  have h := meets_of (ann := a_impl_copyBridge) (ps := [.val true cBridge false]) (rs := [.val true cBridge true]) g_129 mixed Try.func56 (by kernel_rfl) (by kernel_rfl : Try.f56.body = some (codeOf Try.f56))
  rw [e_impl_copyBridge] at h
  exact h
noncomputable def fns_56 : List (FuncId × Fn) := (56, F_impl_copyBridge) :: fns_129
theorem g_56 : Good Try.prog ⟨tis, fns_56⟩ := g_129.cons m_impl_copyBridge
noncomputable def impl_copyNet_l0 (n0 : Net) (t16 : Int) (b0 : List Bridge) : Option ((Int × List Bridge) ⊕ (List Bridge)) :=
  cond (decide (t16 < (n0.1.length : Int)))
    ((at? n0.1 t16).bind fun x18 =>
    (impl_copyBridge x18).bind fun t23 =>
    (app b0 [t23]).bind fun zs25 =>
    some (.inl (w64 (t16 + 1), zs25)))
    (some (.inr b0))
noncomputable def impl_copyNet (n0 : Net) : Option Net :=
  (app [] n0.2.1).bind fun zs8 =>
  (app [] n0.2.2).bind fun zs11 =>
  (loop (fun z => impl_copyNet_l0 n0 z.1 z.2) (0, [])).bind fun d =>
  some (d, zs8, zs11)
noncomputable def F_impl_copyNet : Fn := ⟨[.val true cNet false], [.val true cNet true], fun a => impl_copyNet a⟩
def a_impl_copyNet : List (Nat × LoopAnn) := [(0, ⟨⟨[(16, false, [.dat (.int .i64)])], [(270336, .box [.own 1000000000, .same 265216, .same 268288]), (1000000000, .root cBridge true)]⟩,
    ⟨[], [(270336, .box [.own 1000000300, .same 265216, .same 268288]), (1000000300, .root cBridge true)]⟩, none⟩)]
theorem e_impl_copyNet : fnDen ⟨tis, fns_56⟩ a_impl_copyNet Try.f87 (codeOf Try.f87) [.val true cNet false] [.val true cNet true] = fun a => impl_copyNet a := by kernel_rfl
theorem m_impl_copyNet : Meets Try.prog 87 F_impl_copyNet := by
  have h := meets_of (ann := a_impl_copyNet) (ps := [.val true cNet false]) (rs := [.val true cNet true]) g_56 mixed Try.func87 (by kernel_rfl) (by kernel_rfl : Try.f87.body = some (codeOf Try.f87))
  rw [e_impl_copyNet] at h
  exact h
noncomputable def fns_87 : List (FuncId × Fn) := (87, F_impl_copyNet) :: fns_56
theorem g_87 : Good Try.prog ⟨tis, fns_87⟩ := g_56.cons m_impl_copyNet
noncomputable def impl_in (n0 : Int) (low1 : Int) (high2 : Int) : Option Bool :=
  (cond (decide (n0 ≥ low1)) (some (decide (n0 ≤ high2))) (some false)).bind fun t14 =>
  some t14
noncomputable def F_impl_in : Fn := ⟨[.val false (.one (.int .i64)) false, .val false (.one (.int .i64)) false, .val false (.one (.int .i64)) false], [.val false (.one .bool) true], fun a => impl_in a.1 a.2.1 a.2.2⟩
def a_impl_in : List (Nat × LoopAnn) := []
theorem e_impl_in : fnDen ⟨tis, fns_87⟩ a_impl_in Try.f54 (codeOf Try.f54) [.val false (.one (.int .i64)) false, .val false (.one (.int .i64)) false, .val false (.one (.int .i64)) false] [.val false (.one .bool) true] = fun a => impl_in a.1 a.2.1 a.2.2 := by kernel_rfl
theorem m_impl_in : Meets Try.prog 54 F_impl_in := by
  have h := meets_of (ann := a_impl_in) (ps := [.val false (.one (.int .i64)) false, .val false (.one (.int .i64)) false, .val false (.one (.int .i64)) false]) (rs := [.val false (.one .bool) true]) g_87 mixed Try.func54 (by kernel_rfl) (by kernel_rfl : Try.f54.body = some (codeOf Try.f54))
  rw [e_impl_in] at h
  exact h
noncomputable def fns_54 : List (FuncId × Fn) := (54, F_impl_in) :: fns_87
theorem g_54 : Good Try.prog ⟨tis, fns_54⟩ := g_87.cons m_impl_in
noncomputable def impl_portAt (n0 : Net) (b1 : Int) (p2 : Int) : Option (Pt × Bool) :=
  (impl_in b1 0 (w64 ((n0.1.length : Int) - 1))).bind fun t13 =>
  (cond (!t13)
    (some true)
    ((at? n0.1 b1).bind fun x20 =>
    (impl_in p2 0 (w64 ((x20.2.2.1.length : Int) - 1))).bind fun t25 =>
    some (!t25))).bind fun t27 =>
  cond t27
    (some ((false, 0, false, 0, 0, 0, 0, 0), false))
    ((at? n0.1 b1).bind fun x32 =>
    (at? x32.2.2.1 p2).bind fun x36 =>
    some (x36, true))
noncomputable def F_impl_portAt : Fn := ⟨[.val true cNet false, .val false (.one (.int .i64)) false, .val false (.one (.int .i64)) false], [.val true cPt true, .val false (.one .bool) true], fun a => impl_portAt a.1 a.2.1 a.2.2⟩
def a_impl_portAt : List (Nat × LoopAnn) := []
theorem e_impl_portAt : fnDen ⟨tis, fns_54⟩ a_impl_portAt Try.f166 (codeOf Try.f166) [.val true cNet false, .val false (.one (.int .i64)) false, .val false (.one (.int .i64)) false] [.val true cPt true, .val false (.one .bool) true] = fun a => impl_portAt a.1 a.2.1 a.2.2 := by kernel_rfl
theorem m_impl_portAt : Meets Try.prog 166 F_impl_portAt := by
  have h := meets_of (ann := a_impl_portAt) (ps := [.val true cNet false, .val false (.one (.int .i64)) false, .val false (.one (.int .i64)) false]) (rs := [.val true cPt true, .val false (.one .bool) true]) g_54 mixed Try.func166 (by kernel_rfl) (by kernel_rfl : Try.f166.body = some (codeOf Try.f166))
  rw [e_impl_portAt] at h
  exact h
noncomputable def fns_166 : List (FuncId × Fn) := (166, F_impl_portAt) :: fns_54
theorem g_166 : Good Try.prog ⟨tis, fns_166⟩ := g_54.cons m_impl_portAt
noncomputable def impl_LinkUp (n0 : Net) (k1 : Int) : Option Bool :=
  (impl_in k1 0 (w64 ((n0.2.1.length : Int) - 1))).bind fun t14 =>
  cond (!t14)
    (some false)
    ((at? n0.2.1 k1).bind fun x21 =>
    (at? n0.2.1 k1).bind fun x27 =>
    (impl_portAt n0 x21.1 x27.2.1).bind fun t30 =>
    (at? n0.2.1 k1).bind fun x38 =>
    (at? n0.2.1 k1).bind fun x44 =>
    (impl_portAt n0 x38.2.2.1 x44.2.2.2).bind fun t47 =>
    (cond t30.2 (some t47.2) (some false)).bind fun t53 =>
    (cond t53 (some t30.1.1) (some false)).bind fun t57 =>
    (cond t57 (some t47.1.1) (some false)).bind fun t61 =>
    some t61)
noncomputable def F_impl_LinkUp : Fn := ⟨[.val true cNet false, .val false (.one (.int .i64)) false], [.val false (.one .bool) true], fun a => impl_LinkUp a.1 a.2⟩
def a_impl_LinkUp : List (Nat × LoopAnn) := []
theorem e_impl_LinkUp : fnDen ⟨tis, fns_166⟩ a_impl_LinkUp Try.f90 (codeOf Try.f90) [.val true cNet false, .val false (.one (.int .i64)) false] [.val false (.one .bool) true] = fun a => impl_LinkUp a.1 a.2 := by kernel_rfl
theorem m_impl_LinkUp : Meets Try.prog 90 F_impl_LinkUp := by
  have h := meets_of (ann := a_impl_LinkUp) (ps := [.val true cNet false, .val false (.one (.int .i64)) false]) (rs := [.val false (.one .bool) true]) g_166 mixed Try.func90 (by kernel_rfl) (by kernel_rfl : Try.f90.body = some (codeOf Try.f90))
  rw [e_impl_LinkUp] at h
  exact h
noncomputable def fns_90 : List (FuncId × Fn) := (90, F_impl_LinkUp) :: fns_166
theorem g_90 : Good Try.prog ⟨tis, fns_90⟩ := g_166.cons m_impl_LinkUp
noncomputable def impl_LessVec (a0 : Vec) (b1 : Vec) : Option Bool :=
  cond (a0.1 != b1.1)
    (some (decide (a0.1 < b1.1)))
    (cond (a0.2.1 != b1.2.1)
      (some (decide (a0.2.1 < b1.2.1)))
      (cond (a0.2.2.2.1 != b1.2.2.2.1)
        (let t4 := decide (a0.2.2.2.1 < b1.2.2.2.1)
        some t4)
        (let t4_1 := decide (a0.2.2.2.2 < b1.2.2.2.2)
        some t4_1)))
noncomputable def F_impl_LessVec : Fn := ⟨[.val true cVec false, .val true cVec false], [.val false (.one .bool) true], fun a => impl_LessVec a.1 a.2⟩
def a_impl_LessVec : List (Nat × LoopAnn) := []
theorem e_impl_LessVec : fnDen ⟨tis, fns_90⟩ a_impl_LessVec Try.f153 (codeOf Try.f153) [.val true cVec false, .val true cVec false] [.val false (.one .bool) true] = fun a => impl_LessVec a.1 a.2 := by kernel_rfl
theorem m_impl_LessVec : Meets Try.prog 153 F_impl_LessVec := by
  have h := meets_of (ann := a_impl_LessVec) (ps := [.val true cVec false, .val true cVec false]) (rs := [.val false (.one .bool) true]) g_90 mixed Try.func153 (by kernel_rfl) (by kernel_rfl : Try.f153.body = some (codeOf Try.f153))
  rw [e_impl_LessVec] at h
  exact h
noncomputable def fns_153 : List (FuncId × Fn) := (153, F_impl_LessVec) :: fns_90
theorem g_153 : Good Try.prog ⟨tis, fns_153⟩ := g_90.cons m_impl_LessVec
noncomputable def impl_VecOk (v0 : Vec) : Option Bool :=
  (impl_in v0.1 1 99).bind fun t5 =>
  (cond t5
    ((impl_in v0.2.1 0 100000).bind fun t9 =>
    some t9)
    (some false)).bind fun t10 =>
  (cond t10
    ((impl_in v0.2.2.1 0 10).bind fun t14 =>
    some t14)
    (some false)).bind fun t15 =>
  (cond t15
    ((impl_in v0.2.2.2.1 1 99).bind fun t19 =>
    some t19)
    (some false)).bind fun t20 =>
  (cond t20
    ((impl_in v0.2.2.2.2 0 7).bind fun t24 =>
    some t24)
    (some false)).bind fun t25 =>
  some t25
noncomputable def F_impl_VecOk : Fn := ⟨[.val true cVec false], [.val false (.one .bool) true], fun a => impl_VecOk a⟩
def a_impl_VecOk : List (Nat × LoopAnn) := []
theorem e_impl_VecOk : fnDen ⟨tis, fns_153⟩ a_impl_VecOk Try.f168 (codeOf Try.f168) [.val true cVec false] [.val false (.one .bool) true] = fun a => impl_VecOk a := by kernel_rfl
theorem m_impl_VecOk : Meets Try.prog 168 F_impl_VecOk := by
  have h := meets_of (ann := a_impl_VecOk) (ps := [.val true cVec false]) (rs := [.val false (.one .bool) true]) g_153 mixed Try.func168 (by kernel_rfl) (by kernel_rfl : Try.f168.body = some (codeOf Try.f168))
  rw [e_impl_VecOk] at h
  exact h
noncomputable def fns_168 : List (FuncId × Fn) := (168, F_impl_VecOk) :: fns_153
theorem g_168 : Good Try.prog ⟨tis, fns_168⟩ := g_153.cons m_impl_VecOk
noncomputable def impl_StepVec (v0 : Vec) (cost1 : Int) : Option (Vec × Bool) :=
  (impl_VecOk v0).bind fun t8 =>
  (cond (!t8)
    (some true)
    ((impl_in cost1 1 1000).bind fun t12 =>
    some (!t12))).bind fun t14 =>
  cond t14
    (some (v0, false))
    ((impl_VecOk (v0.1, w64 (v0.2.1 + cost1), w64 (v0.2.2.1 + 1), v0.2.2.2.1, v0.2.2.2.2)).bind fun t27 =>
    cond (!t27)
      (some (v0, false))
      (some ((v0.1, w64 (v0.2.1 + cost1), w64 (v0.2.2.1 + 1), v0.2.2.2.1, v0.2.2.2.2), true)))
noncomputable def F_impl_StepVec : Fn := ⟨[.val true cVec false, .val false (.one (.int .i64)) false], [.val true cVec true, .val false (.one .bool) true], fun a => impl_StepVec a.1 a.2⟩
def a_impl_StepVec : List (Nat × LoopAnn) := []
theorem e_impl_StepVec : fnDen ⟨tis, fns_168⟩ a_impl_StepVec Try.f203 (codeOf Try.f203) [.val true cVec false, .val false (.one (.int .i64)) false] [.val true cVec true, .val false (.one .bool) true] = fun a => impl_StepVec a.1 a.2 := by kernel_rfl
theorem m_impl_StepVec : Meets Try.prog 203 F_impl_StepVec := by
  have h := meets_of (ann := a_impl_StepVec) (ps := [.val true cVec false, .val false (.one (.int .i64)) false]) (rs := [.val true cVec true, .val false (.one .bool) true]) g_168 mixed Try.func203 (by kernel_rfl) (by kernel_rfl : Try.f203.body = some (codeOf Try.f203))
  rw [e_impl_StepVec] at h
  exact h
noncomputable def fns_203 : List (FuncId × Fn) := (203, F_impl_StepVec) :: fns_168
theorem g_203 : Good Try.prog ⟨tis, fns_203⟩ := g_168.cons m_impl_StepVec
noncomputable def impl_BestVec_l0 (p0 : Int) (i1 : List Pt) (t7 : Int) (t18 : Int) (b0 : Int) (b1 : Int) (b2 : Int) (b3 : Int) (b4 : Int) (b0_1 : Int) (b1_1 : Int) (b2_1 : Int) (b3_1 : Int) (b4_1 : Int) : Option ((Int × Int × Int × Int × Int × Int × Int × Int × Int × Int × Int × Int) ⊕ (Int × Int × Int × Int × Int × Int × Int × Int × Int × Int × Int)) :=
  cond (decide (t18 < (i1.length : Int)))
    ((at? i1 t18).bind fun x21 =>
    (cond (!x21.1) (some true) (some (!x21.2.2.1))).bind fun t30 =>
    cond t30
      (some (.inl (t7, w64 (t18 + 1), b0, b1, b2, b3, b4, b0_1, b1_1, b2_1, b3_1, b4_1)))
      ((impl_StepVec x21.2.2.2 x21.2.1).bind fun t36 =>
      (cond t36.2 (some (decide (t36.1.1 < p0))) (some false)).bind fun t45 =>
      (cond t45
        ((cond (decide (t7 < 0))
          (some true)
          ((impl_LessVec t36.1 (b0_1, b1_1, b2_1, b3_1, b4_1)).bind fun t52 =>
          some t52)).bind fun t53 =>
        some t53)
        (some false)).bind fun t54 =>
      cond t54
        (some (.inl (t18, w64 (t18 + 1), t36.1.1, t36.1.2.1, t36.1.2.2.1, p0, 0, t36.1.1, t36.1.2.1, t36.1.2.2.1, t36.1.2.2.2.1, t36.1.2.2.2.2)))
        (some (.inl (t7, w64 (t18 + 1), b0, b1, b2, b3, b4, b0_1, b1_1, b2_1, b3_1, b4_1)))))
    (some (.inr (t7, b0, b1, b2, b3, b4, b0_1, b1_1, b2_1, b3_1, b4_1)))
noncomputable def impl_BestVec (p0 : Int) (i1 : List Pt) : Option (Vec × Int) :=
  (loop (fun z => impl_BestVec_l0 p0 i1 z.1 z.2.1 z.2.2.1 z.2.2.2.1 z.2.2.2.2.1 z.2.2.2.2.2.1 z.2.2.2.2.2.2.1 z.2.2.2.2.2.2.2.1 z.2.2.2.2.2.2.2.2.1 z.2.2.2.2.2.2.2.2.2.1 z.2.2.2.2.2.2.2.2.2.2.1 z.2.2.2.2.2.2.2.2.2.2.2) ((-1), 0, p0, 0, 0, p0, 0, 0, 0, 0, 0, 0)).bind fun d =>
  some ((d.2.1, d.2.2.1, d.2.2.2.1, d.2.2.2.2.1, d.2.2.2.2.2.1), d.1)
noncomputable def F_impl_BestVec : Fn := ⟨[.val false (.one (.int .i64)) false, .val false (.one (.sl cPt)) false], [.val true cVec true, .val false (.one (.int .i64)) true], fun a => impl_BestVec a.1 a.2⟩
def a_impl_BestVec : List (Nat × LoopAnn) := [(0, ⟨⟨[(7, false, [.dat (.int .i64)]), (18, false, [.dat (.int .i64)]), (27, false, [.undef]), (28, false, [.undef]), (29, false, [.undef]), (41, false, [.undef]), (42, false, [.undef]), (43, false, [.undef]), (44, false, [.undef]), (47, false, [.undef]), (48, false, [.undef]), (49, false, [.undef]), (50, false, [.undef]), (51, false, [.undef]), (52, false, [.undef]), (53, false, [.undef])], [(266240, .box [.dat (.int .i64), .dat (.int .i64), .dat (.int .i64), .dat (.int .i64), .dat (.int .i64)]), (525312, .box [.dat (.int .i64), .dat (.int .i64), .dat (.int .i64), .dat (.int .i64), .dat (.int .i64)])]⟩,
    ⟨[(7, false, [.dat (.int .i64)])], [(266240, .box [.dat (.int .i64), .dat (.int .i64), .dat (.int .i64), .dat (.int .i64), .dat (.int .i64)]), (525312, .box [.dat (.int .i64), .dat (.int .i64), .dat (.int .i64), .dat (.int .i64), .dat (.int .i64)])]⟩, none⟩)]
theorem e_impl_BestVec : fnDen ⟨tis, fns_203⟩ a_impl_BestVec Try.f152 (codeOf Try.f152) [.val false (.one (.int .i64)) false, .val false (.one (.sl cPt)) false] [.val true cVec true, .val false (.one (.int .i64)) true] = fun a => impl_BestVec a.1 a.2 := by kernel_rfl
theorem m_impl_BestVec : Meets Try.prog 152 F_impl_BestVec := by
  have h := meets_of (ann := a_impl_BestVec) (ps := [.val false (.one (.int .i64)) false, .val false (.one (.sl cPt)) false]) (rs := [.val true cVec true, .val false (.one (.int .i64)) true]) g_203 mixed Try.func152 (by kernel_rfl) (by kernel_rfl : Try.f152.body = some (codeOf Try.f152))
  rw [e_impl_BestVec] at h
  exact h
noncomputable def fns_152 : List (FuncId × Fn) := (152, F_impl_BestVec) :: fns_203
theorem g_152 : Good Try.prog ⟨tis, fns_152⟩ := g_203.cons m_impl_BestVec
noncomputable def impl_SayVec (id0 : Int) (l1 : List Pt) (port2 : Int) : Option Vec :=
  (impl_BestVec id0 l1).bind fun t12 =>
  some (t12.1.1, t12.1.2.1, t12.1.2.2.1, t12.1.2.2.2.1, port2)
noncomputable def F_impl_SayVec : Fn := ⟨[.val false (.one (.int .i64)) false, .val false (.one (.sl cPt)) false, .val false (.one (.int .i64)) false], [.val true cVec true], fun a => impl_SayVec a.1 a.2.1 a.2.2⟩
def a_impl_SayVec : List (Nat × LoopAnn) := []
theorem e_impl_SayVec : fnDen ⟨tis, fns_152⟩ a_impl_SayVec Try.f154 (codeOf Try.f154) [.val false (.one (.int .i64)) false, .val false (.one (.sl cPt)) false, .val false (.one (.int .i64)) false] [.val true cVec true] = fun a => impl_SayVec a.1 a.2.1 a.2.2 := by kernel_rfl
theorem m_impl_SayVec : Meets Try.prog 154 F_impl_SayVec := by
  have h := meets_of (ann := a_impl_SayVec) (ps := [.val false (.one (.int .i64)) false, .val false (.one (.sl cPt)) false, .val false (.one (.int .i64)) false]) (rs := [.val true cVec true]) g_152 mixed Try.func154 (by kernel_rfl) (by kernel_rfl : Try.f154.body = some (codeOf Try.f154))
  rw [e_impl_SayVec] at h
  exact h
noncomputable def fns_154 : List (FuncId × Fn) := (154, F_impl_SayVec) :: fns_152
theorem g_154 : Good Try.prog ⟨tis, fns_154⟩ := g_152.cons m_impl_SayVec
noncomputable def impl_said (n0 : Net) (b1 : Int) (p2 : Int) : Option Vec :=
  (at? n0.1 b1).bind fun x10 =>
  (at? n0.1 b1).bind fun x16 =>
  (impl_SayVec x10.1 x16.2.2.1 p2).bind fun t20 =>
  some t20
noncomputable def F_impl_said : Fn := ⟨[.val true cNet false, .val false (.one (.int .i64)) false, .val false (.one (.int .i64)) false], [.val true cVec true], fun a => impl_said a.1 a.2.1 a.2.2⟩
def a_impl_said : List (Nat × LoopAnn) := []
theorem e_impl_said : fnDen ⟨tis, fns_154⟩ a_impl_said Try.f93 (codeOf Try.f93) [.val true cNet false, .val false (.one (.int .i64)) false, .val false (.one (.int .i64)) false] [.val true cVec true] = fun a => impl_said a.1 a.2.1 a.2.2 := by kernel_rfl
theorem m_impl_said : Meets Try.prog 93 F_impl_said := by
  have h := meets_of (ann := a_impl_said) (ps := [.val true cNet false, .val false (.one (.int .i64)) false, .val false (.one (.int .i64)) false]) (rs := [.val true cVec true]) g_154 mixed Try.func93 (by kernel_rfl) (by kernel_rfl : Try.f93.body = some (codeOf Try.f93))
  rw [e_impl_said] at h
  exact h
noncomputable def fns_93 : List (FuncId × Fn) := (93, F_impl_said) :: fns_154
theorem g_93 : Good Try.prog ⟨tis, fns_93⟩ := g_154.cons m_impl_said
noncomputable def impl_allPorts (ports0 : Int) : Option Int :=
  (shl .i64 1 ports0).bind fun t4 =>
  some (w64 (t4 - 1))
noncomputable def F_impl_allPorts : Fn := ⟨[.val false (.one (.int .i64)) false], [.val false (.one (.int .i64)) true], fun a => impl_allPorts a⟩
def a_impl_allPorts : List (Nat × LoopAnn) := []
theorem e_impl_allPorts : fnDen ⟨tis, fns_93⟩ a_impl_allPorts Try.f127 (codeOf Try.f127) [.val false (.one (.int .i64)) false] [.val false (.one (.int .i64)) true] = fun a => impl_allPorts a := by kernel_rfl
theorem m_impl_allPorts : Meets Try.prog 127 F_impl_allPorts := by
  have h := meets_of (ann := a_impl_allPorts) (ps := [.val false (.one (.int .i64)) false]) (rs := [.val false (.one (.int .i64)) true]) g_93 mixed Try.func127 (by kernel_rfl) (by kernel_rfl : Try.f127.body = some (codeOf Try.f127))
  rw [e_impl_allPorts] at h
  exact h
noncomputable def fns_127 : List (FuncId × Fn) := (127, F_impl_allPorts) :: fns_93
theorem g_127 : Good Try.prog ⟨tis, fns_127⟩ := g_93.cons m_impl_allPorts
noncomputable def impl_RowAt_l0 (v0 : Vtab) (id1 : Int) (t10 : Int) : Option (Int ⊕ (Unit ⊕ Int)) :=
  cond (decide (t10 < (v0.1.length : Int)))
    ((at? v0.1 t10).bind fun x13 =>
    cond (x13.1 == id1) (some (.inr (.inr t10))) (some (.inl (w64 (t10 + 1)))))
    (some (.inr (.inl ())))
noncomputable def impl_RowAt (v0 : Vtab) (id1 : Int) : Option Int :=
  (loop (fun z => impl_RowAt_l0 v0 id1 z) 0).bind (Sum.elim (fun d =>
    some (-1)) (fun r => some r))
noncomputable def F_impl_RowAt : Fn := ⟨[.val true cVtab false, .val false (.one (.int .i64)) false], [.val false (.one (.int .i64)) true], fun a => impl_RowAt a.1 a.2⟩
def a_impl_RowAt : List (Nat × LoopAnn) := [(0, ⟨⟨[(10, false, [.dat (.int .i64)])], []⟩,
    ⟨[], []⟩, some ⟨[(4, false, [.dat (.int .i64)])], []⟩⟩)]
theorem e_impl_RowAt : fnDen ⟨tis, fns_127⟩ a_impl_RowAt Try.f137 (codeOf Try.f137) [.val true cVtab false, .val false (.one (.int .i64)) false] [.val false (.one (.int .i64)) true] = fun a => impl_RowAt a.1 a.2 := by kernel_rfl
theorem m_impl_RowAt : Meets Try.prog 137 F_impl_RowAt := by
  have h := meets_of (ann := a_impl_RowAt) (ps := [.val true cVtab false, .val false (.one (.int .i64)) false]) (rs := [.val false (.one (.int .i64)) true]) g_127 mixed Try.func137 (by kernel_rfl) (by kernel_rfl : Try.f137.body = some (codeOf Try.f137))
  rw [e_impl_RowAt] at h
  exact h
noncomputable def fns_137 : List (FuncId × Fn) := (137, F_impl_RowAt) :: fns_127
theorem g_137 : Good Try.prog ⟨tis, fns_137⟩ := g_127.cons m_impl_RowAt
noncomputable def impl_VtabOk_l0 (p0 : Vtab) (i1 : Int) (t28 : Int) : Option (Int ⊕ (Unit ⊕ Bool)) :=
  cond (decide (t28 < (p0.1.length : Int)))
    ((at? p0.1 t28).bind fun x31 =>
    (impl_in x31.1 1 99).bind fun t35 =>
    (cond (!t35)
      (some true)
      ((cond (decide (t28 > 0))
        ((at? p0.1 (w64 (t28 - 1))).bind fun x45 =>
        some (decide (x45.1 ≥ x31.1)))
        (some false)).bind fun t51 =>
      some t51)).bind fun t52 =>
    (cond t52
      (some true)
      ((impl_allPorts i1).bind fun t57 =>
      (impl_in x31.2.1 0 t57).bind fun t58 =>
      some (!t58))).bind fun t60 =>
    (cond t60 (some true) (some ((bclr .i64 x31.2.2 x31.2.1) != 0))).bind fun t68 =>
    cond t68 (some (.inr (.inr false))) (some (.inl (w64 (t28 + 1)))))
    (some (.inr (.inl ())))
noncomputable def impl_VtabOk_l2 (p0 : Vtab) (t73 : Int) : Option (Int ⊕ (Unit ⊕ Bool)) :=
  cond (decide (t73 < (p0.2.length : Int)))
    ((at? p0.2 t73).bind fun x75 =>
    (impl_RowAt p0 x75).bind fun t79 =>
    cond (decide (t79 < 0)) (some (.inr (.inr false))) (some (.inl (w64 (t73 + 1)))))
    (some (.inr (.inl ())))
noncomputable def impl_VtabOk (p0 : Vtab) (i1 : Int) : Option Bool :=
  (impl_in i1 1 6).bind fun t10 =>
  (cond (!t10) (some true) (some ((p0.2.length : Int) != i1))).bind fun t18 =>
  (cond t18 (some true) (some (decide ((p0.1.length : Int) > 6)))).bind fun t24 =>
  cond t24
    (some false)
    ((loop (fun z => impl_VtabOk_l0 p0 i1 z) 0).bind (Sum.elim (fun d =>
      (loop (fun z => impl_VtabOk_l2 p0 z) 0).bind (Sum.elim (fun d_1 =>
        some true) (fun r => some r))) (fun r_1 => some r_1)))
noncomputable def F_impl_VtabOk : Fn := ⟨[.val true cVtab false, .val false (.one (.int .i64)) false], [.val false (.one .bool) true], fun a => impl_VtabOk a.1 a.2⟩
def a_impl_VtabOk : List (Nat × LoopAnn) := [(0, ⟨⟨[(28, false, [.dat (.int .i64)]), (38, false, [.undef]), (39, false, [.undef]), (40, false, [.undef]), (41, false, [.undef]), (42, false, [.undef]), (43, false, [.undef]), (44, false, [.undef]), (45, false, [.undef]), (46, false, [.undef]), (47, false, [.undef]), (48, false, [.undef]), (49, false, [.undef]), (50, false, [.undef]), (51, false, [.undef]), (54, false, [.undef]), (55, false, [.undef]), (56, false, [.undef]), (57, false, [.undef]), (58, false, [.undef]), (59, false, [.undef]), (62, false, [.undef]), (63, false, [.undef]), (64, false, [.undef]), (65, false, [.undef]), (66, false, [.undef]), (67, false, [.undef])], []⟩,
    ⟨[], []⟩, some ⟨[(4, false, [.dat .bool])], []⟩⟩),
  (2, ⟨⟨[(73, false, [.dat (.int .i64)])], []⟩,
    ⟨[], []⟩, some ⟨[(4, false, [.dat .bool])], []⟩⟩)]
theorem e_impl_VtabOk : fnDen ⟨tis, fns_137⟩ a_impl_VtabOk Try.f61 (codeOf Try.f61) [.val true cVtab false, .val false (.one (.int .i64)) false] [.val false (.one .bool) true] = fun a => impl_VtabOk a.1 a.2 := by kernel_rfl
theorem m_impl_VtabOk : Meets Try.prog 61 F_impl_VtabOk := by
  have h := meets_of (ann := a_impl_VtabOk) (ps := [.val true cVtab false, .val false (.one (.int .i64)) false]) (rs := [.val false (.one .bool) true]) g_137 mixed Try.func61 (by kernel_rfl) (by kernel_rfl : Try.f61.body = some (codeOf Try.f61))
  rw [e_impl_VtabOk] at h
  exact h
noncomputable def fns_61 : List (FuncId × Fn) := (61, F_impl_VtabOk) :: fns_137
theorem g_61 : Good Try.prog ⟨tis, fns_61⟩ := g_137.cons m_impl_VtabOk
noncomputable def impl_PtOk (p0 : Pt) : Option Bool :=
  (impl_in p0.2.1 1 1000).bind fun t5 =>
  (cond (!t5)
    (some true)
    ((cond p0.2.2.1 (some (!p0.1)) (some false)).bind fun t14 =>
    some t14)).bind fun t15 =>
  cond t15
    (some false)
    (cond p0.2.2.1
      ((impl_VecOk p0.2.2.2).bind fun t20 =>
      some t20)
      (let t2 := p0.2.2.2.1 == 0 && (p0.2.2.2.2.1 == 0 && (p0.2.2.2.2.2.1 == 0 && (p0.2.2.2.2.2.2.1 == 0 && (p0.2.2.2.2.2.2.2 == 0))))
      some t2))
noncomputable def F_impl_PtOk : Fn := ⟨[.val true cPt false], [.val false (.one .bool) true], fun a => impl_PtOk a⟩
def a_impl_PtOk : List (Nat × LoopAnn) := []
theorem e_impl_PtOk : fnDen ⟨tis, fns_61⟩ a_impl_PtOk Try.f131 (codeOf Try.f131) [.val true cPt false] [.val false (.one .bool) true] = fun a => impl_PtOk a := by kernel_rfl
theorem m_impl_PtOk : Meets Try.prog 131 F_impl_PtOk := by
  have h := meets_of (ann := a_impl_PtOk) (ps := [.val true cPt false]) (rs := [.val false (.one .bool) true]) g_61 mixed Try.func131 (by kernel_rfl) (by kernel_rfl : Try.f131.body = some (codeOf Try.f131))
  rw [e_impl_PtOk] at h
  exact h
noncomputable def fns_131 : List (FuncId × Fn) := (131, F_impl_PtOk) :: fns_61
theorem g_131 : Good Try.prog ⟨tis, fns_131⟩ := g_61.cons m_impl_PtOk
noncomputable def impl_fentOk (e0 : Fent) : Option Bool :=
  (impl_in e0.1 1 99).bind fun t5 =>
  (cond t5
    ((impl_in e0.2.1 1 9999).bind fun t9 =>
    some t9)
    (some false)).bind fun t10 =>
  (cond t10
    ((impl_in e0.2.2.1 0 7).bind fun t14 =>
    some t14)
    (some false)).bind fun t15 =>
  (cond t15
    ((impl_in e0.2.2.2.1 0 4).bind fun t19 =>
    some t19)
    (some false)).bind fun t20 =>
  (cond t20
    ((cond (!e0.2.2.2.2) (some true) (some (e0.2.2.2.1 == 0))).bind fun t29 =>
    some t29)
    (some false)).bind fun t30 =>
  some t30
noncomputable def F_impl_fentOk : Fn := ⟨[.val true cFent false], [.val false (.one .bool) true], fun a => impl_fentOk a⟩
def a_impl_fentOk : List (Nat × LoopAnn) := []
theorem e_impl_fentOk : fnDen ⟨tis, fns_131⟩ a_impl_fentOk Try.f139 (codeOf Try.f139) [.val true cFent false] [.val false (.one .bool) true] = fun a => impl_fentOk a := by kernel_rfl
theorem m_impl_fentOk : Meets Try.prog 139 F_impl_fentOk := by
  have h := meets_of (ann := a_impl_fentOk) (ps := [.val true cFent false]) (rs := [.val false (.one .bool) true]) g_131 mixed Try.func139 (by kernel_rfl) (by kernel_rfl : Try.f139.body = some (codeOf Try.f139))
  rw [e_impl_fentOk] at h
  exact h
noncomputable def fns_139 : List (FuncId × Fn) := (139, F_impl_fentOk) :: fns_131
theorem g_139 : Good Try.prog ⟨tis, fns_139⟩ := g_131.cons m_impl_fentOk
noncomputable def impl_behind (e0 : Fent) (tag1 : Int) (mac2 : Int) : Option Bool :=
  (cond (decide (e0.1 > tag1))
    (some true)
    ((cond (e0.1 == tag1) (some (decide (e0.2.1 > mac2))) (some false)).bind fun t21 =>
    some t21)).bind fun t22 =>
  some t22
noncomputable def F_impl_behind : Fn := ⟨[.val true cFent false, .val false (.one (.int .i64)) false, .val false (.one (.int .i64)) false], [.val false (.one .bool) true], fun a => impl_behind a.1 a.2.1 a.2.2⟩
def a_impl_behind : List (Nat × LoopAnn) := []
theorem e_impl_behind : fnDen ⟨tis, fns_139⟩ a_impl_behind Try.f197 (codeOf Try.f197) [.val true cFent false, .val false (.one (.int .i64)) false, .val false (.one (.int .i64)) false] [.val false (.one .bool) true] = fun a => impl_behind a.1 a.2.1 a.2.2 := by kernel_rfl
theorem m_impl_behind : Meets Try.prog 197 F_impl_behind := by
  have h := meets_of (ann := a_impl_behind) (ps := [.val true cFent false, .val false (.one (.int .i64)) false, .val false (.one (.int .i64)) false]) (rs := [.val false (.one .bool) true]) g_139 mixed Try.func197 (by kernel_rfl) (by kernel_rfl : Try.f197.body = some (codeOf Try.f197))
  rw [e_impl_behind] at h
  exact h
noncomputable def fns_197 : List (FuncId × Fn) := (197, F_impl_behind) :: fns_139
theorem g_197 : Good Try.prog ⟨tis, fns_197⟩ := g_139.cons m_impl_behind
noncomputable def impl_FdbOk_l0 (l0 : List Fent) (t7 : Int) : Option (Int ⊕ (Unit ⊕ Bool)) :=
  cond (decide (t7 < (l0.length : Int)))
    ((at? l0 t7).bind fun x10 =>
    (impl_fentOk x10).bind fun t13 =>
    (cond (!t13)
      (some true)
      ((cond (decide (t7 > 0))
        ((at? l0 (w64 (t7 - 1))).bind fun x23 =>
        (at? l0 (w64 (t7 - 1))).bind fun x29 =>
        (impl_behind x10 x23.1 x29.2.1).bind fun t32 =>
        some (!t32))
        (some false)).bind fun t34 =>
      some t34)).bind fun t35 =>
    cond t35 (some (.inr (.inr false))) (some (.inl (w64 (t7 + 1)))))
    (some (.inr (.inl ())))
noncomputable def impl_FdbOk (l0 : List Fent) : Option Bool :=
  (loop (fun z => impl_FdbOk_l0 l0 z) 0).bind (Sum.elim (fun d =>
    let t2 := decide ((l0.length : Int) ≤ 12)
    some t2) (fun r => some r))
noncomputable def F_impl_FdbOk : Fn := ⟨[.val false (.one (.sl cFent)) false], [.val false (.one .bool) true], fun a => impl_FdbOk a⟩
def a_impl_FdbOk : List (Nat × LoopAnn) := [(0, ⟨⟨[(7, false, [.dat (.int .i64)]), (16, false, [.undef]), (17, false, [.undef]), (18, false, [.undef]), (19, false, [.undef]), (20, false, [.undef]), (21, false, [.undef]), (22, false, [.undef]), (23, false, [.undef]), (24, false, [.undef]), (25, false, [.undef]), (26, false, [.undef]), (27, false, [.undef]), (28, false, [.undef]), (29, false, [.undef]), (30, false, [.undef]), (31, false, [.undef]), (32, false, [.undef]), (33, false, [.undef]), (34, false, [.undef])], []⟩,
    ⟨[], []⟩, some ⟨[(2, false, [.dat .bool])], []⟩⟩)]
theorem e_impl_FdbOk : fnDen ⟨tis, fns_197⟩ a_impl_FdbOk Try.f132 (codeOf Try.f132) [.val false (.one (.sl cFent)) false] [.val false (.one .bool) true] = fun a => impl_FdbOk a := by kernel_rfl
theorem m_impl_FdbOk : Meets Try.prog 132 F_impl_FdbOk := by
  have h := meets_of (ann := a_impl_FdbOk) (ps := [.val false (.one (.sl cFent)) false]) (rs := [.val false (.one .bool) true]) g_197 mixed Try.func132 (by kernel_rfl) (by kernel_rfl : Try.f132.body = some (codeOf Try.f132))
  rw [e_impl_FdbOk] at h
  exact h
noncomputable def fns_132 : List (FuncId × Fn) := (132, F_impl_FdbOk) :: fns_197
theorem g_132 : Good Try.prog ⟨tis, fns_132⟩ := g_197.cons m_impl_FdbOk
noncomputable def impl_isCount (n0 : Int) : Option Bool :=
  (impl_in n0 0 1000000).bind fun t4 =>
  some t4
noncomputable def F_impl_isCount : Fn := ⟨[.val false (.one (.int .i64)) false], [.val false (.one .bool) true], fun a => impl_isCount a⟩
def a_impl_isCount : List (Nat × LoopAnn) := []
theorem e_impl_isCount : fnDen ⟨tis, fns_132⟩ a_impl_isCount Try.f133 (codeOf Try.f133) [.val false (.one (.int .i64)) false] [.val false (.one .bool) true] = fun a => impl_isCount a := by kernel_rfl
theorem m_impl_isCount : Meets Try.prog 133 F_impl_isCount := by
  have h := meets_of (ann := a_impl_isCount) (ps := [.val false (.one (.int .i64)) false]) (rs := [.val false (.one .bool) true]) g_132 mixed Try.func133 (by kernel_rfl) (by kernel_rfl : Try.f133.body = some (codeOf Try.f133))
  rw [e_impl_isCount] at h
  exact h
noncomputable def fns_133 : List (FuncId × Fn) := (133, F_impl_isCount) :: fns_132
theorem g_133 : Good Try.prog ⟨tis, fns_133⟩ := g_132.cons m_impl_isCount
noncomputable def impl_BridgeOk_l0 (p0 : Bridge) (t8 : Int) : Option (Int ⊕ (Unit ⊕ Bool)) :=
  cond (decide (t8 < (p0.2.2.1.length : Int)))
    ((at? p0.2.2.1 t8).bind fun x10 =>
    (impl_PtOk x10).bind fun t13 =>
    cond (!t13) (some (.inr (.inr false))) (some (.inl (w64 (t8 + 1)))))
    (some (.inr (.inl ())))
noncomputable def impl_BridgeOk (p0 : Bridge) : Option Bool :=
  (loop (fun z => impl_BridgeOk_l0 p0 z) 0).bind (Sum.elim (fun d =>
    (impl_in p0.1 1 99).bind fun t18 =>
    (cond (!t18) (some true) (some (decide ((p0.2.1.length : Int) > 10)))).bind fun t25 =>
    (cond t25
      (some true)
      ((impl_in (p0.2.2.1.length : Int) 1 6).bind fun t30 =>
      some (!t30))).bind fun t32 =>
    (cond t32
      (some true)
      ((impl_FdbOk p0.2.2.2.1).bind fun t36 =>
      some (!t36))).bind fun t38 =>
    (cond t38
      (some true)
      ((impl_VtabOk (p0.2.2.2.2.1, p0.2.2.2.2.2.1) (p0.2.2.1.length : Int)).bind fun t45 =>
      some (!t45))).bind fun t47 =>
    cond t47
      (some false)
      ((impl_isCount p0.2.2.2.2.2.2.1).bind fun t50 =>
      (cond t50
        ((impl_isCount p0.2.2.2.2.2.2.2.1).bind fun t54 =>
        some t54)
        (some false)).bind fun t55 =>
      (cond t55
        ((impl_isCount p0.2.2.2.2.2.2.2.2.1).bind fun t59 =>
        some t59)
        (some false)).bind fun t60 =>
      (cond t60
        ((impl_isCount p0.2.2.2.2.2.2.2.2.2.1).bind fun t64 =>
        some t64)
        (some false)).bind fun t65 =>
      (cond t65
        ((impl_isCount p0.2.2.2.2.2.2.2.2.2.2).bind fun t69 =>
        some t69)
        (some false)).bind fun t70 =>
      some t70)) (fun r => some r))
noncomputable def F_impl_BridgeOk : Fn := ⟨[.val true cBridge false], [.val false (.one .bool) true], fun a => impl_BridgeOk a⟩
def a_impl_BridgeOk : List (Nat × LoopAnn) := [(0, ⟨⟨[(8, false, [.dat (.int .i64)])], []⟩,
    ⟨[], []⟩, some ⟨[(2, false, [.dat .bool])], []⟩⟩)]
theorem e_impl_BridgeOk : fnDen ⟨tis, fns_133⟩ a_impl_BridgeOk Try.f59 (codeOf Try.f59) [.val true cBridge false] [.val false (.one .bool) true] = fun a => impl_BridgeOk a := by kernel_rfl
theorem m_impl_BridgeOk : Meets Try.prog 59 F_impl_BridgeOk := by
  have h := meets_of (ann := a_impl_BridgeOk) (ps := [.val true cBridge false]) (rs := [.val false (.one .bool) true]) g_133 mixed Try.func59 (by kernel_rfl) (by kernel_rfl : Try.f59.body = some (codeOf Try.f59))
  rw [e_impl_BridgeOk] at h
  exact h
noncomputable def fns_59 : List (FuncId × Fn) := (59, F_impl_BridgeOk) :: fns_133
theorem g_59 : Good Try.prog ⟨tis, fns_59⟩ := g_133.cons m_impl_BridgeOk
noncomputable def impl_ends_l0 (l0 : List Link) (b1 : Int) (p2 : Int) (t11 : Int) : Option (Int ⊕ (Unit ⊕ Bool)) :=
  cond (decide (t11 < (l0.length : Int)))
    ((at? l0 t11).bind fun x13 =>
    (cond (x13.1 == b1) (some (x13.2.1 == p2)) (some false)).bind fun t24 =>
    (cond t24
      (some true)
      ((cond (x13.2.2.1 == b1) (some (x13.2.2.2 == p2)) (some false)).bind fun t35 =>
      some t35)).bind fun t36 =>
    cond t36 (some (.inr (.inr true))) (some (.inl (w64 (t11 + 1)))))
    (some (.inr (.inl ())))
noncomputable def impl_ends (l0 : List Link) (b1 : Int) (p2 : Int) : Option Bool :=
  (loop (fun z => impl_ends_l0 l0 b1 p2 z) 0).bind (Sum.elim (fun d =>
    some false) (fun r => some r))
noncomputable def F_impl_ends : Fn := ⟨[.val false (.one (.sl cLink)) false, .val false (.one (.int .i64)) false, .val false (.one (.int .i64)) false], [.val false (.one .bool) true], fun a => impl_ends a.1 a.2.1 a.2.2⟩
def a_impl_ends : List (Nat × LoopAnn) := [(0, ⟨⟨[(11, false, [.dat (.int .i64)]), (20, false, [.undef]), (21, false, [.undef]), (22, false, [.undef]), (23, false, [.undef]), (26, false, [.undef]), (27, false, [.undef]), (28, false, [.undef]), (29, false, [.undef]), (30, false, [.undef]), (31, false, [.undef]), (32, false, [.undef]), (33, false, [.undef]), (34, false, [.undef]), (35, false, [.undef])], []⟩,
    ⟨[], []⟩, some ⟨[(6, false, [.dat .bool])], []⟩⟩)]
theorem e_impl_ends : fnDen ⟨tis, fns_59⟩ a_impl_ends Try.f167 (codeOf Try.f167) [.val false (.one (.sl cLink)) false, .val false (.one (.int .i64)) false, .val false (.one (.int .i64)) false] [.val false (.one .bool) true] = fun a => impl_ends a.1 a.2.1 a.2.2 := by kernel_rfl
theorem m_impl_ends : Meets Try.prog 167 F_impl_ends := by
  have h := meets_of (ann := a_impl_ends) (ps := [.val false (.one (.sl cLink)) false, .val false (.one (.int .i64)) false, .val false (.one (.int .i64)) false]) (rs := [.val false (.one .bool) true]) g_59 mixed Try.func167 (by kernel_rfl) (by kernel_rfl : Try.f167.body = some (codeOf Try.f167))
  rw [e_impl_ends] at h
  exact h
noncomputable def fns_167 : List (FuncId × Fn) := (167, F_impl_ends) :: fns_59
theorem g_167 : Good Try.prog ⟨tis, fns_167⟩ := g_59.cons m_impl_ends
noncomputable def impl_linksOk_l0 (p0 : Net) (t12 : Int) : Option (Int ⊕ (Unit ⊕ Bool)) :=
  cond (decide (t12 < (p0.2.1.length : Int)))
    ((at? p0.2.1 t12).bind fun x15 =>
    (impl_portAt p0 x15.1 x15.2.1).bind fun t23 =>
    (impl_portAt p0 x15.2.2.1 x15.2.2.2).bind fun t32 =>
    (cond (decide (t12 ≥ 9)) (some true) (some (!t23.2))).bind fun t40 =>
    (cond t40 (some true) (some (!t32.2))).bind fun t44 =>
    (cond t44 (some true) (some (x15.1 == x15.2.2.1))).bind fun t51 =>
    (cond t51 (some true) (some (!(t23.1.1 == t32.1.1)))).bind fun t58 =>
    cond t58
      (some (.inr (.inr false)))
      ((cut p0.2.1 0 t12).bind fun t62 =>
      (impl_ends t62 x15.1 x15.2.1).bind fun t67 =>
      (cond t67
        (some true)
        ((cut p0.2.1 0 t12).bind fun t72 =>
        (impl_ends t72 x15.2.2.1 x15.2.2.2).bind fun t77 =>
        some t77)).bind fun t78 =>
      cond t78 (some (.inr (.inr false))) (some (.inl (w64 (t12 + 1))))))
    (some (.inr (.inl ())))
noncomputable def impl_linksOk (p0 : Net) : Option Bool :=
  (loop (fun z => impl_linksOk_l0 p0 z) 0).bind (Sum.elim (fun d =>
    some true) (fun r => some r))
noncomputable def F_impl_linksOk : Fn := ⟨[.val true cNet false], [.val false (.one .bool) true], fun a => impl_linksOk a⟩
def a_impl_linksOk : List (Nat × LoopAnn) := [(0, ⟨⟨[(12, false, [.dat (.int .i64)]), (38, false, [.undef]), (39, false, [.undef]), (42, false, [.undef]), (43, false, [.undef]), (46, false, [.undef]), (47, false, [.undef]), (48, false, [.undef]), (49, false, [.undef]), (50, false, [.undef]), (53, false, [.undef]), (54, false, [.undef]), (55, false, [.undef]), (56, false, [.undef]), (57, false, [.undef]), (69, false, [.undef]), (70, false, [.undef]), (71, false, [.undef]), (72, false, [.undef]), (73, false, [.undef]), (74, false, [.undef]), (75, false, [.undef]), (76, false, [.undef]), (77, false, [.undef])], []⟩,
    ⟨[], []⟩, some ⟨[(2, false, [.dat .bool])], []⟩⟩)]
theorem e_impl_linksOk : fnDen ⟨tis, fns_167⟩ a_impl_linksOk Try.f169 (codeOf Try.f169) [.val true cNet false] [.val false (.one .bool) true] = fun a => impl_linksOk a := by kernel_rfl
theorem m_impl_linksOk : Meets Try.prog 169 F_impl_linksOk := by
  have h := meets_of (ann := a_impl_linksOk) (ps := [.val true cNet false]) (rs := [.val false (.one .bool) true]) g_167 mixed Try.func169 (by kernel_rfl) (by kernel_rfl : Try.f169.body = some (codeOf Try.f169))
  rw [e_impl_linksOk] at h
  exact h
noncomputable def fns_169 : List (FuncId × Fn) := (169, F_impl_linksOk) :: fns_167
theorem g_169 : Good Try.prog ⟨tis, fns_169⟩ := g_167.cons m_impl_linksOk
noncomputable def impl_NetOk_l2 (x28 : Bridge) (t36 : List Bridge) (t38 : Int) : Option (Int ⊕ (Unit ⊕ Bool)) :=
  cond (decide (t38 < (t36.length : Int)))
    ((at? t36 t38).bind fun x40 =>
    cond (x40.1 == x28.1) (some (.inr (.inr false))) (some (.inl (w64 (t38 + 1)))))
    (some (.inr (.inl ())))
noncomputable def impl_NetOk_l4 (p0 : Net) (t25 : Int) (x28 : Bridge) (t51 : Int) : Option (Int ⊕ (Unit ⊕ Bool)) :=
  cond (decide (t51 < (x28.2.2.1.length : Int)))
    ((at? x28.2.2.1 t51).bind fun x54 =>
    (cond x54.2.2.1
      ((impl_ends p0.2.1 t25 t51).bind fun t63 =>
      some (!t63))
      (some false)).bind fun t65 =>
    cond t65 (some (.inr (.inr false))) (some (.inl (w64 (t51 + 1)))))
    (some (.inr (.inl ())))
noncomputable def impl_NetOk_l0 (p0 : Net) (t25 : Int) : Option (Int ⊕ (Unit ⊕ Bool)) :=
  cond (decide (t25 < (p0.1.length : Int)))
    ((at? p0.1 t25).bind fun x28 =>
    (impl_BridgeOk x28).bind fun t31 =>
    cond (!t31)
      (some (.inr (.inr false)))
      ((cut p0.1 0 t25).bind fun t36 =>
      (loop (fun z => impl_NetOk_l2 x28 t36 z) 0).bind (Sum.elim (fun d =>
        (loop (fun z => impl_NetOk_l4 p0 t25 x28 z) 0).bind (Sum.elim (fun d_1 =>
          some (.inl (w64 (t25 + 1)))) (fun r => some (.inr (.inr r))))) (fun r_1 => some (.inr (.inr r_1))))))
    (some (.inr (.inl ())))
noncomputable def impl_NetOk_l6 (p0 : Net) (t71 : Int) : Option (Int ⊕ (Unit ⊕ Bool)) :=
  cond (decide (t71 < (p0.2.2.length : Int)))
    ((at? p0.2.2 t71).bind fun x73 =>
    (impl_in x73.1 0 (w64 ((p0.2.1.length : Int) - 1))).bind fun t81 =>
    (cond (!t81)
      (some true)
      ((impl_VecOk x73.2.2).bind fun t86 =>
      some (!t86))).bind fun t88 =>
    cond t88 (some (.inr (.inr false))) (some (.inl (w64 (t71 + 1)))))
    (some (.inr (.inl ())))
noncomputable def impl_NetOk (p0 : Net) : Option Bool :=
  (impl_in (p0.1.length : Int) 1 6).bind fun t14 =>
  (cond (!t14) (some true) (some (decide ((p0.2.2.length : Int) > 40)))).bind fun t21 =>
  cond t21
    (some false)
    ((loop (fun z => impl_NetOk_l0 p0 z) 0).bind (Sum.elim (fun d_2 =>
      (loop (fun z => impl_NetOk_l6 p0 z) 0).bind (Sum.elim (fun d_3 =>
        (impl_linksOk p0).bind fun t91 =>
        some t91) (fun r_2 => some r_2))) (fun r_3 => some r_3)))
noncomputable def F_impl_NetOk : Fn := ⟨[.val true cNet false], [.val false (.one .bool) true], fun a => impl_NetOk a⟩
def a_impl_NetOk : List (Nat × LoopAnn) := [(0, ⟨⟨[(25, false, [.dat (.int .i64)]), (59, false, [.undef]), (60, false, [.undef]), (61, false, [.undef]), (62, false, [.undef]), (63, false, [.undef]), (64, false, [.undef])], []⟩,
    ⟨[], []⟩, some ⟨[(2, false, [.dat .bool])], []⟩⟩),
  (2, ⟨⟨[(38, false, [.dat (.int .i64)])], []⟩,
    ⟨[], []⟩, some ⟨[(2, false, [.dat .bool])], []⟩⟩),
  (4, ⟨⟨[(51, false, [.dat (.int .i64)]), (59, false, [.undef]), (60, false, [.undef]), (61, false, [.undef]), (62, false, [.undef]), (63, false, [.undef]), (64, false, [.undef])], []⟩,
    ⟨[(59, false, [.undef]), (60, false, [.undef]), (61, false, [.undef]), (62, false, [.undef]), (63, false, [.undef]), (64, false, [.undef])], []⟩, some ⟨[(2, false, [.dat .bool])], []⟩⟩),
  (6, ⟨⟨[(71, false, [.dat (.int .i64)]), (84, false, [.undef]), (85, false, [.undef]), (86, false, [.undef]), (87, false, [.undef])], []⟩,
    ⟨[], []⟩, some ⟨[(2, false, [.dat .bool])], []⟩⟩)]
theorem e_impl_NetOk : fnDen ⟨tis, fns_169⟩ a_impl_NetOk Try.f94 (codeOf Try.f94) [.val true cNet false] [.val false (.one .bool) true] = fun a => impl_NetOk a := by kernel_rfl
theorem m_impl_NetOk : Meets Try.prog 94 F_impl_NetOk := by
  have h := meets_of (ann := a_impl_NetOk) (ps := [.val true cNet false]) (rs := [.val false (.one .bool) true]) g_169 mixed Try.func94 (by kernel_rfl) (by kernel_rfl : Try.f94.body = some (codeOf Try.f94))
  rw [e_impl_NetOk] at h
  exact h
noncomputable def fns_94 : List (FuncId × Fn) := (94, F_impl_NetOk) :: fns_169
theorem g_94 : Good Try.prog ⟨tis, fns_94⟩ := g_169.cons m_impl_NetOk
noncomputable def impl_isPort (b0 : Bridge) (port1 : Int) : Option Bool :=
  (impl_BridgeOk b0).bind fun t6 =>
  (cond t6
    ((impl_in port1 0 (w64 ((b0.2.2.1.length : Int) - 1))).bind fun t13 =>
    some t13)
    (some false)).bind fun t14 =>
  some t14
noncomputable def F_impl_isPort : Fn := ⟨[.val true cBridge false, .val false (.one (.int .i64)) false], [.val false (.one .bool) true], fun a => impl_isPort a.1 a.2⟩
def a_impl_isPort : List (Nat × LoopAnn) := []
theorem e_impl_isPort : fnDen ⟨tis, fns_94⟩ a_impl_isPort Try.f57 (codeOf Try.f57) [.val true cBridge false, .val false (.one (.int .i64)) false] [.val false (.one .bool) true] = fun a => impl_isPort a.1 a.2 := by kernel_rfl
theorem m_impl_isPort : Meets Try.prog 57 F_impl_isPort := by
  have h := meets_of (ann := a_impl_isPort) (ps := [.val true cBridge false, .val false (.one (.int .i64)) false]) (rs := [.val false (.one .bool) true]) g_94 mixed Try.func57 (by kernel_rfl) (by kernel_rfl : Try.f57.body = some (codeOf Try.f57))
  rw [e_impl_isPort] at h
  exact h
noncomputable def fns_57 : List (FuncId × Fn) := (57, F_impl_isPort) :: fns_94
theorem g_57 : Good Try.prog ⟨tis, fns_57⟩ := g_94.cons m_impl_isPort
noncomputable def impl_RoleOf (id0 : Int) (l1 : List Pt) (port2 : Int) : Option Int :=
  (impl_in port2 0 (w64 ((l1.length : Int) - 1))).bind fun t13 =>
  (cond (!t13)
    (some true)
    ((at? l1 port2).bind fun x18 =>
    some (!x18.1))).bind fun t22 =>
  cond t22
    (some 4)
    ((impl_BestVec id0 l1).bind fun t26 =>
    cond (t26.2 == port2)
      (some 1)
      ((at? l1 port2).bind fun x36 =>
      (cond (!x36.2.2.1)
        (some true)
        ((impl_SayVec id0 l1 port2).bind fun t44 =>
        (at? l1 port2).bind fun x47 =>
        (impl_LessVec t44 x47.2.2.2).bind fun t50 =>
        some t50)).bind fun t51 =>
      cond t51 (some 2) (some 3)))
noncomputable def F_impl_RoleOf : Fn := ⟨[.val false (.one (.int .i64)) false, .val false (.one (.sl cPt)) false, .val false (.one (.int .i64)) false], [.val false (.one (.int .i64)) true], fun a => impl_RoleOf a.1 a.2.1 a.2.2⟩
def a_impl_RoleOf : List (Nat × LoopAnn) := []
theorem e_impl_RoleOf : fnDen ⟨tis, fns_57⟩ a_impl_RoleOf Try.f79 (codeOf Try.f79) [.val false (.one (.int .i64)) false, .val false (.one (.sl cPt)) false, .val false (.one (.int .i64)) false] [.val false (.one (.int .i64)) true] = fun a => impl_RoleOf a.1 a.2.1 a.2.2 := by kernel_rfl
theorem m_impl_RoleOf : Meets Try.prog 79 F_impl_RoleOf := by
  have h := meets_of (ann := a_impl_RoleOf) (ps := [.val false (.one (.int .i64)) false, .val false (.one (.sl cPt)) false, .val false (.one (.int .i64)) false]) (rs := [.val false (.one (.int .i64)) true]) g_57 mixed Try.func79 (by kernel_rfl) (by kernel_rfl : Try.f79.body = some (codeOf Try.f79))
  rw [e_impl_RoleOf] at h
  exact h
noncomputable def fns_79 : List (FuncId × Fn) := (79, F_impl_RoleOf) :: fns_57
theorem g_79 : Good Try.prog ⟨tis, fns_79⟩ := g_57.cons m_impl_RoleOf
noncomputable def impl_Sends_l0 (id0 : Int) (l1 : List Pt) (bits5 : Int) (port6 : Int) : Option ((Int × Int) ⊕ Int) :=
  (cond (decide (port6 < (l1.length : Int))) (some (decide (port6 < 6))) (some false)).bind fun t15 =>
  cond t15
    ((impl_RoleOf id0 l1 port6).bind fun t21 =>
    (cond (t21 == 1) (some true) (some (t21 == 2))).bind fun t27 =>
    cond t27
      ((shl .i64 1 port6).bind fun t30 =>
      some (.inl (bor .i64 bits5 t30, w64 (port6 + 1))))
      (some (.inl (bits5, w64 (port6 + 1)))))
    (some (.inr bits5))
noncomputable def impl_Sends (id0 : Int) (l1 : List Pt) : Option Int :=
  (loop (fun z => impl_Sends_l0 id0 l1 z.1 z.2) (0, 0)).bind fun d =>
  some d
noncomputable def F_impl_Sends : Fn := ⟨[.val false (.one (.int .i64)) false, .val false (.one (.sl cPt)) false], [.val false (.one (.int .i64)) true], fun a => impl_Sends a.1 a.2⟩
def a_impl_Sends : List (Nat × LoopAnn) := [(0, ⟨⟨[(5, false, [.dat (.int .i64)]), (6, false, [.dat (.int .i64)]), (13, false, [.undef]), (14, false, [.undef]), (25, false, [.undef]), (26, false, [.undef])], []⟩,
    ⟨[(5, false, [.dat (.int .i64)])], []⟩, none⟩)]
theorem e_impl_Sends : fnDen ⟨tis, fns_79⟩ a_impl_Sends Try.f63 (codeOf Try.f63) [.val false (.one (.int .i64)) false, .val false (.one (.sl cPt)) false] [.val false (.one (.int .i64)) true] = fun a => impl_Sends a.1 a.2 := by kernel_rfl
theorem m_impl_Sends : Meets Try.prog 63 F_impl_Sends := by
  have h := meets_of (ann := a_impl_Sends) (ps := [.val false (.one (.int .i64)) false, .val false (.one (.sl cPt)) false]) (rs := [.val false (.one (.int .i64)) true]) g_79 mixed Try.func63 (by kernel_rfl) (by kernel_rfl : Try.f63.body = some (codeOf Try.f63))
  rw [e_impl_Sends] at h
  exact h
noncomputable def fns_63 : List (FuncId × Fn) := (63, F_impl_Sends) :: fns_79
theorem g_63 : Good Try.prog ⟨tis, fns_63⟩ := g_79.cons m_impl_Sends
noncomputable def impl_hasPort (bits0 : Int) (port1 : Int) : Option Bool :=
  (impl_in port1 0 62).bind fun t6 =>
  (cond t6
    ((shr .i64 bits0 port1).bind fun t10 =>
    some ((band .i64 t10 1) == 1))
    (some false)).bind fun t13 =>
  some t13
noncomputable def F_impl_hasPort : Fn := ⟨[.val false (.one (.int .i64)) false, .val false (.one (.int .i64)) false], [.val false (.one .bool) true], fun a => impl_hasPort a.1 a.2⟩
def a_impl_hasPort : List (Nat × LoopAnn) := []
theorem e_impl_hasPort : fnDen ⟨tis, fns_63⟩ a_impl_hasPort Try.f65 (codeOf Try.f65) [.val false (.one (.int .i64)) false, .val false (.one (.int .i64)) false] [.val false (.one .bool) true] = fun a => impl_hasPort a.1 a.2 := by kernel_rfl
theorem m_impl_hasPort : Meets Try.prog 65 F_impl_hasPort := by
  have h := meets_of (ann := a_impl_hasPort) (ps := [.val false (.one (.int .i64)) false, .val false (.one (.int .i64)) false]) (rs := [.val false (.one .bool) true]) g_63 mixed Try.func65 (by kernel_rfl) (by kernel_rfl : Try.f65.body = some (codeOf Try.f65))
  rw [e_impl_hasPort] at h
  exact h
noncomputable def fns_65 : List (FuncId × Fn) := (65, F_impl_hasPort) :: fns_63
theorem g_65 : Good Try.prog ⟨tis, fns_65⟩ := g_63.cons m_impl_hasPort
noncomputable def impl_more (n0 : Int) : Option Int :=
  let t2 := min2 (w64 (n0 + 1)) 1000000
  some t2
noncomputable def F_impl_more : Fn := ⟨[.val false (.one (.int .i64)) false], [.val false (.one (.int .i64)) true], fun a => impl_more a⟩
def a_impl_more : List (Nat × LoopAnn) := []
theorem e_impl_more : fnDen ⟨tis, fns_65⟩ a_impl_more Try.f66 (codeOf Try.f66) [.val false (.one (.int .i64)) false] [.val false (.one (.int .i64)) true] = fun a => impl_more a := by kernel_rfl
theorem m_impl_more : Meets Try.prog 66 F_impl_more := by
  have h := meets_of (ann := a_impl_more) (ps := [.val false (.one (.int .i64)) false]) (rs := [.val false (.one (.int .i64)) true]) g_65 mixed Try.func66 (by kernel_rfl) (by kernel_rfl : Try.f66.body = some (codeOf Try.f66))
  rw [e_impl_more] at h
  exact h
noncomputable def fns_66 : List (FuncId × Fn) := (66, F_impl_more) :: fns_65
theorem g_66 : Good Try.prog ⟨tis, fns_66⟩ := g_65.cons m_impl_more
noncomputable def impl_FlushPort_l0 (l0 : List Fent) (port1 : Int) (t10 : Int) (out5 : List Fent) : Option ((Int × List Fent) ⊕ (List Fent)) :=
  cond (decide (t10 < (l0.length : Int)))
    ((at? l0 t10).bind fun x12 =>
    (cond x12.2.2.2.2 (some true) (some (x12.2.2.1 != port1))).bind fun t21 =>
    cond t21
      ((app out5 [x12]).bind fun zs25 =>
      some (.inl (w64 (t10 + 1), zs25)))
      (some (.inl (w64 (t10 + 1), out5))))
    (some (.inr out5))
noncomputable def impl_FlushPort (l0 : List Fent) (port1 : Int) : Option (List Fent) :=
  (loop (fun z => impl_FlushPort_l0 l0 port1 z.1 z.2) (0, [])).bind fun d =>
  some d
noncomputable def F_impl_FlushPort : Fn := ⟨[.val false (.one (.sl cFent)) false, .val false (.one (.int .i64)) false], [.val false (.one (.sl cFent)) true], fun a => impl_FlushPort a.1 a.2⟩
def a_impl_FlushPort : List (Nat × LoopAnn) := [(0, ⟨⟨[(5, false, [.own 1000000000]), (10, false, [.dat (.int .i64)]), (17, false, [.undef]), (18, false, [.undef]), (19, false, [.undef]), (20, false, [.undef])], [(1000000000, .root cFent true)]⟩,
    ⟨[(5, false, [.own 1000000300])], [(1000000300, .root cFent true)]⟩, none⟩)]
theorem e_impl_FlushPort : fnDen ⟨tis, fns_66⟩ a_impl_FlushPort Try.f130 (codeOf Try.f130) [.val false (.one (.sl cFent)) false, .val false (.one (.int .i64)) false] [.val false (.one (.sl cFent)) true] = fun a => impl_FlushPort a.1 a.2 := by kernel_rfl
theorem m_impl_FlushPort : Meets Try.prog 130 F_impl_FlushPort := by
  have h := meets_of (ann := a_impl_FlushPort) (ps := [.val false (.one (.sl cFent)) false, .val false (.one (.int .i64)) false]) (rs := [.val false (.one (.sl cFent)) true]) g_66 mixed Try.func130 (by kernel_rfl) (by kernel_rfl : Try.f130.body = some (codeOf Try.f130))
  rw [e_impl_FlushPort] at h
  exact h
noncomputable def fns_130 : List (FuncId × Fn) := (130, F_impl_FlushPort) :: fns_66
theorem g_130 : Good Try.prog ⟨tis, fns_130⟩ := g_66.cons m_impl_FlushPort
noncomputable def impl_Bridge_turn_l0 (b0 : Bridge) (t20 : Int) (t26 : Int) (b0_1 : Int) (b1 : List UInt8) (b6 : Int) (b7 : Int) (b8 : Int) (b9 : Int) (b10 : Int) (b3 : List Fent) : Option ((Int × Int × List UInt8 × Int × Int × Int × Int × Int × List Fent) ⊕ (Int × List UInt8 × Int × Int × Int × Int × Int × List Fent)) :=
  cond (decide (t26 < (b0.2.2.1.length : Int)))
    ((impl_hasPort t20 t26).bind fun t31 =>
    cond (!t31)
      ((impl_FlushPort b3 t26).bind fun t39 =>
      some (.inl (w64 (t26 + 1), b0_1, b1, b6, b7, b8, b9, b10, t39)))
      (some (.inl (w64 (t26 + 1), b0_1, b1, b6, b7, b8, b9, b10, b3))))
    (some (.inr (b0_1, b1, b6, b7, b8, b9, b10, b3)))
noncomputable def impl_Bridge_turn (b0 : Bridge) : Option Bridge :=
  (impl_more b0.2.2.2.2.2.2.2.2.2.2).bind fun t9 =>
  (impl_Sends b0.1 b0.2.2.1).bind fun t20 =>
  (loop (fun z => impl_Bridge_turn_l0 b0 t20 z.1 z.2.1 z.2.2.1 z.2.2.2.1 z.2.2.2.2.1 z.2.2.2.2.2.1 z.2.2.2.2.2.2.1 z.2.2.2.2.2.2.2.1 z.2.2.2.2.2.2.2.2) (0, b0.1, b0.2.1, b0.2.2.2.2.2.2.1, b0.2.2.2.2.2.2.2.1, b0.2.2.2.2.2.2.2.2.1, b0.2.2.2.2.2.2.2.2.2.1, t9, b0.2.2.2.1)).bind fun d =>
  some (d.1, d.2.1, b0.2.2.1, d.2.2.2.2.2.2.2, b0.2.2.2.2.1, b0.2.2.2.2.2.1, d.2.2.1, d.2.2.2.1, d.2.2.2.2.1, d.2.2.2.2.2.1, d.2.2.2.2.2.2.1)
noncomputable def F_impl_Bridge_turn : Fn := ⟨[.ptr cBridge true], [], fun a => impl_Bridge_turn a⟩
def a_impl_Bridge_turn : List (Nat × LoopAnn) := [(0, ⟨⟨[(26, false, [.dat (.int .i64)])], [(1, .box [.dat (.int .i64), .dat .str, .same 4, .own 1000000000, .same 6, .same 7, .dat (.int .i64), .dat (.int .i64), .dat (.int .i64), .dat (.int .i64), .dat (.int .i64)]), (1000000000, .root cFent true)]⟩,
    ⟨[], [(1, .box [.dat (.int .i64), .dat .str, .same 4, .own 1000000300, .same 6, .same 7, .dat (.int .i64), .dat (.int .i64), .dat (.int .i64), .dat (.int .i64), .dat (.int .i64)]), (1000000300, .root cFent true)]⟩, none⟩)]
theorem e_impl_Bridge_turn : fnDen ⟨tis, fns_130⟩ a_impl_Bridge_turn Try.f58 (codeOf Try.f58) [.ptr cBridge true] [] = fun a => impl_Bridge_turn a := by kernel_rfl
theorem m_impl_Bridge_turn : Meets Try.prog 58 F_impl_Bridge_turn := by
  have h := meets_of (ann := a_impl_Bridge_turn) (ps := [.ptr cBridge true]) (rs := []) g_130 mixed Try.func58 (by kernel_rfl) (by kernel_rfl : Try.f58.body = some (codeOf Try.f58))
  rw [e_impl_Bridge_turn] at h
  exact h
noncomputable def fns_58 : List (FuncId × Fn) := (58, F_impl_Bridge_turn) :: fns_130
theorem g_58 : Good Try.prog ⟨tis, fns_58⟩ := g_130.cons m_impl_Bridge_turn
noncomputable def impl_HearVec (b0 : Bridge) (port1 : Int) (v2 : Vec) : Option Bridge :=
  (impl_copyBridge b0).bind fun t9 =>
  (impl_isPort b0 port1).bind fun t12 =>
  (cond t12
    ((at? b0.2.2.1 port1).bind fun x17 =>
    some x17.1)
    (some false)).bind fun t20 =>
  (cond t20
    ((impl_VecOk v2).bind fun t23 =>
    some t23)
    (some false)).bind fun t24 =>
  cond t24
    ((ix t9.2.2.1.length port1).bind fun j32 =>
    (t9.2.2.1[j32]?).bind fun x =>
    (ix (t9.2.2.1.set j32 (x.1, x.2.1, true, x.2.2.2.1, x.2.2.2.2.1, x.2.2.2.2.2.1, x.2.2.2.2.2.2.1, x.2.2.2.2.2.2.2)).length port1).bind fun j34 =>
    ((t9.2.2.1.set j32 (x.1, x.2.1, true, x.2.2.2.1, x.2.2.2.2.1, x.2.2.2.2.2.1, x.2.2.2.2.2.2.1, x.2.2.2.2.2.2.2))[j34]?).bind fun x_1 =>
    (impl_Bridge_turn (t9.1, t9.2.1, (t9.2.2.1.set j32 (x.1, x.2.1, true, x.2.2.2.1, x.2.2.2.2.1, x.2.2.2.2.2.1, x.2.2.2.2.2.2.1, x.2.2.2.2.2.2.2)).set j34 (x_1.1, x_1.2.1, x_1.2.2.1, v2.1, v2.2.1, v2.2.2.1, v2.2.2.2.1, v2.2.2.2.2), t9.2.2.2.1, t9.2.2.2.2.1, t9.2.2.2.2.2.1, t9.2.2.2.2.2.2.1, t9.2.2.2.2.2.2.2.1, t9.2.2.2.2.2.2.2.2.1, t9.2.2.2.2.2.2.2.2.2.1, t9.2.2.2.2.2.2.2.2.2.2)).bind fun t36 =>
    some t36)
    (some t9)
noncomputable def F_impl_HearVec : Fn := ⟨[.val true cBridge false, .val false (.one (.int .i64)) false, .val true cVec false], [.val true cBridge true], fun a => impl_HearVec a.1 a.2.1 a.2.2⟩
def a_impl_HearVec : List (Nat × LoopAnn) := []
theorem e_impl_HearVec : fnDen ⟨tis, fns_58⟩ a_impl_HearVec Try.f214 (codeOf Try.f214) [.val true cBridge false, .val false (.one (.int .i64)) false, .val true cVec false] [.val true cBridge true] = fun a => impl_HearVec a.1 a.2.1 a.2.2 := by kernel_rfl
theorem m_impl_HearVec : Meets Try.prog 214 F_impl_HearVec := by
  have h := meets_of (ann := a_impl_HearVec) (ps := [.val true cBridge false, .val false (.one (.int .i64)) false, .val true cVec false]) (rs := [.val true cBridge true]) g_58 mixed Try.func214 (by kernel_rfl) (by kernel_rfl : Try.f214.body = some (codeOf Try.f214))
  rw [e_impl_HearVec] at h
  exact h
noncomputable def fns_214 : List (FuncId × Fn) := (214, F_impl_HearVec) :: fns_58
theorem g_214 : Good Try.prog ⟨tis, fns_214⟩ := g_58.cons m_impl_HearVec
noncomputable def impl_Net_hear (n0 : Net) (b1 : Int) (p2 : Int) (v3 : Vec) : Option Net :=
  (ix n0.1.length b1).bind fun j18 =>
  (n0.1[j18]?).bind fun x19 =>
  (impl_HearVec x19 p2 v3).bind fun t22 =>
  (ix n0.1.length b1).bind fun j23 =>
  (n0.1[j23]?).bind fun x =>
  some (n0.1.set j23 t22, n0.2.1, n0.2.2)
noncomputable def F_impl_Net_hear : Fn := ⟨[.ptr cNet true, .val false (.one (.int .i64)) false, .val false (.one (.int .i64)) false, .val true cVec false], [], fun a => impl_Net_hear a.1 a.2.1 a.2.2.1 a.2.2.2⟩
def a_impl_Net_hear : List (Nat × LoopAnn) := []
theorem e_impl_Net_hear : fnDen ⟨tis, fns_214⟩ a_impl_Net_hear Try.f165 (codeOf Try.f165) [.ptr cNet true, .val false (.one (.int .i64)) false, .val false (.one (.int .i64)) false, .val true cVec false] [] = fun a => impl_Net_hear a.1 a.2.1 a.2.2.1 a.2.2.2 := by kernel_rfl
theorem m_impl_Net_hear : Meets Try.prog 165 F_impl_Net_hear := by
  have h := meets_of (ann := a_impl_Net_hear) (ps := [.ptr cNet true, .val false (.one (.int .i64)) false, .val false (.one (.int .i64)) false, .val true cVec false]) (rs := []) g_214 mixed Try.func165 (by kernel_rfl) (by kernel_rfl : Try.f165.body = some (codeOf Try.f165))
  rw [e_impl_Net_hear] at h
  exact h
noncomputable def fns_165 : List (FuncId × Fn) := (165, F_impl_Net_hear) :: fns_214
theorem g_165 : Good Try.prog ⟨tis, fns_165⟩ := g_214.cons m_impl_Net_hear
noncomputable def impl_Round_l0 (n0 : Net) (t16 : Int) (b0 : List Bridge) (b1 : List Link) (b2 : List Say) : Option ((Int × List Bridge × List Link × List Say) ⊕ (List Bridge × List Link × List Say)) :=
  cond (decide (t16 < (n0.2.1.length : Int)))
    ((at? n0.2.1 t16).bind fun x19 =>
    (impl_LinkUp n0 t16).bind fun t23 =>
    cond t23
      ((impl_said n0 x19.2.2.1 x19.2.2.2).bind fun t33 =>
      (impl_Net_hear (b0, b1, b2) x19.1 x19.2.1 t33).bind fun t34 =>
      (impl_said n0 x19.1 x19.2.1).bind fun t44 =>
      (impl_Net_hear t34 x19.2.2.1 x19.2.2.2 t44).bind fun t45 =>
      some (.inl (w64 (t16 + 1), t45.1, t45.2.1, t45.2.2)))
      (some (.inl (w64 (t16 + 1), b0, b1, b2))))
    (some (.inr (b0, b1, b2)))
noncomputable def impl_Round (n0 : Net) : Option Net :=
  (impl_copyNet n0).bind fun t7 =>
  (impl_NetOk n0).bind fun t9 =>
  cond (!t9)
    (some t7)
    ((loop (fun z => impl_Round_l0 n0 z.1 z.2.1 z.2.2.1 z.2.2.2) (0, t7.1, t7.2.1, [])).bind fun d =>
    some d)
noncomputable def F_impl_Round : Fn := ⟨[.val true cNet false], [.val true cNet true], fun a => impl_Round a⟩
def a_impl_Round : List (Nat × LoopAnn) := [(0, ⟨⟨[(16, false, [.dat (.int .i64)])], [(265216, .box [.own 1000000000, .own 1000000001, .own 1000000002]), (1000000000, .root cBridge true), (1000000001, .root cLink true), (1000000002, .root cSay true)]⟩,
    ⟨[], [(265216, .box [.own 1000000300, .own 1000000301, .own 1000000302]), (1000000300, .root cBridge true), (1000000301, .root cLink true), (1000000302, .root cSay true)]⟩, none⟩)]
theorem e_impl_Round : fnDen ⟨tis, fns_165⟩ a_impl_Round Try.f88 (codeOf Try.f88) [.val true cNet false] [.val true cNet true] = fun a => impl_Round a := by kernel_rfl
theorem m_impl_Round : Meets Try.prog 88 F_impl_Round := by
  have h := meets_of (ann := a_impl_Round) (ps := [.val true cNet false]) (rs := [.val true cNet true]) g_165 mixed Try.func88 (by kernel_rfl) (by kernel_rfl : Try.f88.body = some (codeOf Try.f88))
  rw [e_impl_Round] at h
  exact h
noncomputable def fns_88 : List (FuncId × Fn) := (88, F_impl_Round) :: fns_165
theorem g_88 : Good Try.prog ⟨tis, fns_88⟩ := g_165.cons m_impl_Round
noncomputable def impl_Rounds_l0 (k1 : Int) (t11 : Int) (b0 : List Bridge) (b1 : List Link) (b2 : List Say) : Option ((Int × List Bridge × List Link × List Say) ⊕ (List Bridge × List Link × List Say)) :=
  cond (decide (t11 < (max2 0 (min2 k1 30))))
    ((impl_Round (b0, b1, b2)).bind fun t14 =>
    some (.inl (w64 (t11 + 1), t14.1, t14.2.1, t14.2.2)))
    (some (.inr (b0, b1, b2)))
noncomputable def impl_Rounds (n0 : Net) (k1 : Int) : Option Net :=
  (impl_copyNet n0).bind fun t7 =>
  (loop (fun z => impl_Rounds_l0 k1 z.1 z.2.1 z.2.2.1 z.2.2.2) (0, t7.1, t7.2.1, t7.2.2)).bind fun d =>
  some d
noncomputable def F_impl_Rounds : Fn := ⟨[.val true cNet false, .val false (.one (.int .i64)) false], [.val true cNet true], fun a => impl_Rounds a.1 a.2⟩
def a_impl_Rounds : List (Nat × LoopAnn) := [(0, ⟨⟨[(11, false, [.dat (.int .i64)])], [(265216, .box [.own 1000000000, .own 1000000001, .own 1000000002]), (1000000000, .root cBridge true), (1000000001, .root cLink true), (1000000002, .root cSay true)]⟩,
    ⟨[], [(265216, .box [.own 1000000300, .own 1000000301, .own 1000000302]), (1000000300, .root cBridge true), (1000000301, .root cLink true), (1000000302, .root cSay true)]⟩, none⟩)]
theorem e_impl_Rounds : fnDen ⟨tis, fns_88⟩ a_impl_Rounds Try.f28 (codeOf Try.f28) [.val true cNet false, .val false (.one (.int .i64)) false] [.val true cNet true] = fun a => impl_Rounds a.1 a.2 := by kernel_rfl
theorem m_impl_Rounds : Meets Try.prog 28 F_impl_Rounds := by
  have h := meets_of (ann := a_impl_Rounds) (ps := [.val true cNet false, .val false (.one (.int .i64)) false]) (rs := [.val true cNet true]) g_88 mixed Try.func28 (by kernel_rfl) (by kernel_rfl : Try.f28.body = some (codeOf Try.f28))
  rw [e_impl_Rounds] at h
  exact h
noncomputable def fns_28 : List (FuncId × Fn) := (28, F_impl_Rounds) :: fns_88
theorem g_28 : Good Try.prog ⟨tis, fns_28⟩ := g_88.cons m_impl_Rounds
noncomputable def impl_VtabNew_l0 (ports0 : Int) (t16 : Int) (b1 : List Int) : Option ((Int × List Int) ⊕ (List Int)) :=
  cond (decide (t16 < ports0))
    ((app b1 ([1] : List Int)).bind fun zs21 =>
    some (.inl (w64 (t16 + 1), zs21)))
    (some (.inr b1))
noncomputable def impl_VtabNew (ports0 : Int) : Option Vtab :=
  (impl_in ports0 1 6).bind fun t5 =>
  cond (!t5)
    (some ([], []))
    ((impl_allPorts ports0).bind fun t9 =>
    (impl_allPorts ports0).bind fun t11 =>
    (loop (fun z => impl_VtabNew_l0 ports0 z.1 z.2) (0, [])).bind fun d =>
    some ([(1, t9, t11)], d))
noncomputable def F_impl_VtabNew : Fn := ⟨[.val false (.one (.int .i64)) false], [.val true cVtab true], fun a => impl_VtabNew a⟩
def a_impl_VtabNew : List (Nat × LoopAnn) := [(0, ⟨⟨[(16, false, [.dat (.int .i64)])], [(794624, .box [.same 792576, .own 1000000000]), (1000000000, .root (.one (.int .i64)) true)]⟩,
    ⟨[], [(794624, .box [.same 792576, .own 1000000300]), (1000000300, .root (.one (.int .i64)) true)]⟩, none⟩)]
theorem e_impl_VtabNew : fnDen ⟨tis, fns_28⟩ a_impl_VtabNew Try.f55 (codeOf Try.f55) [.val false (.one (.int .i64)) false] [.val true cVtab true] = fun a => impl_VtabNew a := by kernel_rfl
theorem m_impl_VtabNew : Meets Try.prog 55 F_impl_VtabNew := by
  have h := meets_of (ann := a_impl_VtabNew) (ps := [.val false (.one (.int .i64)) false]) (rs := [.val true cVtab true]) g_28 mixed Try.func55 (by kernel_rfl) (by kernel_rfl : Try.f55.body = some (codeOf Try.f55))
  rw [e_impl_VtabNew] at h
  exact h
noncomputable def fns_55 : List (FuncId × Fn) := (55, F_impl_VtabNew) :: fns_28
theorem g_55 : Good Try.prog ⟨tis, fns_55⟩ := g_28.cons m_impl_VtabNew
noncomputable def impl_BridgeNew_l0 (ports1 : Int) (t20 : Int) (b0 : Int) (b1 : List UInt8) (b6 : Int) (b7 : Int) (b8 : Int) (b9 : Int) (b10 : Int) (b2 : List Pt) (b3 : List Fent) : Option ((Int × Int × List UInt8 × Int × Int × Int × Int × Int × List Pt × List Fent) ⊕ (Int × List UInt8 × Int × Int × Int × Int × Int × List Pt × List Fent)) :=
  cond (decide (t20 < ports1))
    ((app b2 [(false, 1, false, 0, 0, 0, 0, 0)]).bind fun zs26 =>
    some (.inl (w64 (t20 + 1), b0, b1, b6, b7, b8, b9, b10, zs26, b3)))
    (some (.inr (b0, b1, b6, b7, b8, b9, b10, b2, b3)))
noncomputable def impl_BridgeNew (id0 : Int) (ports1 : Int) : Option Bridge :=
  (impl_in id0 1 99).bind fun t7 =>
  (cond (!t7)
    (some true)
    ((impl_in ports1 1 6).bind fun t11 =>
    some (!t11))).bind fun t13 =>
  cond t13
    (some (0, [], [], [], [], [], 0, 0, 0, 0, 0))
    ((impl_VtabNew ports1).bind fun t17 =>
    (loop (fun z => impl_BridgeNew_l0 ports1 z.1 z.2.1 z.2.2.1 z.2.2.2.1 z.2.2.2.2.1 z.2.2.2.2.2.1 z.2.2.2.2.2.2.1 z.2.2.2.2.2.2.2.1 z.2.2.2.2.2.2.2.2.1 z.2.2.2.2.2.2.2.2.2) (0, id0, [], 0, 0, 0, 0, 0, [], [])).bind fun d =>
    some (d.1, d.2.1, d.2.2.2.2.2.2.2.1, d.2.2.2.2.2.2.2.2, t17.1, t17.2, d.2.2.1, d.2.2.2.1, d.2.2.2.2.1, d.2.2.2.2.2.1, d.2.2.2.2.2.2.1))
noncomputable def F_impl_BridgeNew : Fn := ⟨[.val false (.one (.int .i64)) false, .val false (.one (.int .i64)) false], [.val true cBridge true], fun a => impl_BridgeNew a.1 a.2⟩
def a_impl_BridgeNew : List (Nat × LoopAnn) := [(0, ⟨⟨[(20, false, [.dat (.int .i64)])], [(791552, .box [.dat (.int .i64), .dat .str, .own 1000000000, .own 1000000001, .same 789504, .same 789505, .dat (.int .i64), .dat (.int .i64), .dat (.int .i64), .dat (.int .i64), .dat (.int .i64)]), (1000000000, .root cPt true), (1000000001, .root cFent true)]⟩,
    ⟨[], [(791552, .box [.dat (.int .i64), .dat .str, .own 1000000300, .own 1000000301, .same 789504, .same 789505, .dat (.int .i64), .dat (.int .i64), .dat (.int .i64), .dat (.int .i64), .dat (.int .i64)]), (1000000300, .root cPt true), (1000000301, .root cFent true)]⟩, none⟩)]
theorem e_impl_BridgeNew : fnDen ⟨tis, fns_55⟩ a_impl_BridgeNew Try.f12 (codeOf Try.f12) [.val false (.one (.int .i64)) false, .val false (.one (.int .i64)) false] [.val true cBridge true] = fun a => impl_BridgeNew a.1 a.2 := by kernel_rfl
theorem m_impl_BridgeNew : Meets Try.prog 12 F_impl_BridgeNew := by
  have h := meets_of (ann := a_impl_BridgeNew) (ps := [.val false (.one (.int .i64)) false, .val false (.one (.int .i64)) false]) (rs := [.val true cBridge true]) g_55 mixed Try.func12 (by kernel_rfl) (by kernel_rfl : Try.f12.body = some (codeOf Try.f12))
  rw [e_impl_BridgeNew] at h
  exact h
noncomputable def fns_12 : List (FuncId × Fn) := (12, F_impl_BridgeNew) :: fns_55
theorem g_12 : Good Try.prog ⟨tis, fns_12⟩ := g_55.cons m_impl_BridgeNew
noncomputable def impl_LinkSet (b0 : Bridge) (port1 : Int) (up2 : Bool) : Option Bridge :=
  (impl_copyBridge b0).bind fun t9 =>
  (impl_isPort b0 port1).bind fun t12 =>
  cond t12
    ((at? b0.2.2.1 port1).bind fun x20 =>
    (ix t9.2.2.1.length port1).bind fun j24 =>
    (t9.2.2.1[j24]?).bind fun x =>
    (impl_Bridge_turn (t9.1, t9.2.1, t9.2.2.1.set j24 (up2, x20.2.1, false, 0, 0, 0, 0, 0), t9.2.2.2.1, t9.2.2.2.2.1, t9.2.2.2.2.2.1, t9.2.2.2.2.2.2.1, t9.2.2.2.2.2.2.2.1, t9.2.2.2.2.2.2.2.2.1, t9.2.2.2.2.2.2.2.2.2.1, t9.2.2.2.2.2.2.2.2.2.2)).bind fun t25 =>
    some t25)
    (some t9)
noncomputable def F_impl_LinkSet : Fn := ⟨[.val true cBridge false, .val false (.one (.int .i64)) false, .val false (.one .bool) false], [.val true cBridge true], fun a => impl_LinkSet a.1 a.2.1 a.2.2⟩
def a_impl_LinkSet : List (Nat × LoopAnn) := []
theorem e_impl_LinkSet : fnDen ⟨tis, fns_12⟩ a_impl_LinkSet Try.f13 (codeOf Try.f13) [.val true cBridge false, .val false (.one (.int .i64)) false, .val false (.one .bool) false] [.val true cBridge true] = fun a => impl_LinkSet a.1 a.2.1 a.2.2 := by kernel_rfl
theorem m_impl_LinkSet : Meets Try.prog 13 F_impl_LinkSet := by
  have h := meets_of (ann := a_impl_LinkSet) (ps := [.val true cBridge false, .val false (.one (.int .i64)) false, .val false (.one .bool) false]) (rs := [.val true cBridge true]) g_12 mixed Try.func13 (by kernel_rfl) (by kernel_rfl : Try.f13.body = some (codeOf Try.f13))
  rw [e_impl_LinkSet] at h
  exact h
noncomputable def fns_13 : List (FuncId × Fn) := (13, F_impl_LinkSet) :: fns_12
theorem g_13 : Good Try.prog ⟨tis, fns_13⟩ := g_12.cons m_impl_LinkSet
noncomputable def impl_NetNew_l2 (t27 : Bridge) (t31 : Int) (b0_1 : Int) (b1 : List UInt8) (b6 : Int) (b7 : Int) (b8 : Int) (b9 : Int) (b10 : Int) (b2_1 : List Pt) (b3 : List Fent) (b4 : List Vrow) (b5 : List Int) : Option ((Int × Int × List UInt8 × Int × Int × Int × Int × Int × List Pt × List Fent × List Vrow × List Int) ⊕ (Int × List UInt8 × Int × Int × Int × Int × Int × List Pt × List Fent × List Vrow × List Int)) :=
  cond (decide (t31 < (t27.2.2.1.length : Int)))
    ((impl_LinkSet (b0_1, b1, b2_1, b3, b4, b5, b6, b7, b8, b9, b10) t31 true).bind fun t36 =>
    some (.inl (w64 (t31 + 1), t36.1, t36.2.1, t36.2.2.2.2.2.2.1, t36.2.2.2.2.2.2.2.1, t36.2.2.2.2.2.2.2.2.1, t36.2.2.2.2.2.2.2.2.2.1, t36.2.2.2.2.2.2.2.2.2.2, t36.2.2.1, t36.2.2.2.1, t36.2.2.2.2.1, t36.2.2.2.2.2.1)))
    (some (.inr (b0_1, b1, b6, b7, b8, b9, b10, b2_1, b3, b4, b5)))
noncomputable def impl_NetNew_l0 (ids0 : List Int) (ports1 : Int) (t21 : Int) (b0 : List Bridge) (b2 : List Say) : Option ((Int × List Bridge × List Say) ⊕ (List Bridge × List Say)) :=
  cond (decide (t21 < (ids0.length : Int)))
    ((at? ids0 t21).bind fun x23 =>
    (impl_BridgeNew x23 ports1).bind fun t27 =>
    (loop (fun z => impl_NetNew_l2 t27 z.1 z.2.1 z.2.2.1 z.2.2.2.1 z.2.2.2.2.1 z.2.2.2.2.2.1 z.2.2.2.2.2.2.1 z.2.2.2.2.2.2.2.1 z.2.2.2.2.2.2.2.2.1 z.2.2.2.2.2.2.2.2.2.1 z.2.2.2.2.2.2.2.2.2.2.1 z.2.2.2.2.2.2.2.2.2.2.2) (0, t27.1, t27.2.1, t27.2.2.2.2.2.2.1, t27.2.2.2.2.2.2.2.1, t27.2.2.2.2.2.2.2.2.1, t27.2.2.2.2.2.2.2.2.2.1, t27.2.2.2.2.2.2.2.2.2.2, t27.2.2.1, t27.2.2.2.1, t27.2.2.2.2.1, t27.2.2.2.2.2.1)).bind fun d =>
    (app b0 [(d.1, d.2.1, d.2.2.2.2.2.2.2.1, d.2.2.2.2.2.2.2.2.1, d.2.2.2.2.2.2.2.2.2.1, d.2.2.2.2.2.2.2.2.2.2, d.2.2.1, d.2.2.2.1, d.2.2.2.2.1, d.2.2.2.2.2.1, d.2.2.2.2.2.2.1)]).bind fun zs42 =>
    some (.inl (w64 (t21 + 1), zs42, b2)))
    (some (.inr (b0, b2)))
noncomputable def impl_NetNew (ids0 : List Int) (ports1 : Int) (l2 : List Link) : Option Net :=
  cond (decide ((ids0.length : Int) > 6))
    (some ([], [], []))
    ((app [] l2).bind fun zs17 =>
    (loop (fun z => impl_NetNew_l0 ids0 ports1 z.1 z.2.1 z.2.2) (0, [], [])).bind fun d_1 =>
    (impl_NetOk (d_1.1, zs17, d_1.2)).bind fun t46 =>
    cond (!t46) (some ([], [], [])) (some (d_1.1, zs17, d_1.2)))
noncomputable def F_impl_NetNew : Fn := ⟨[.val false (.one (.sl (.one (.int .i64)))) false, .val false (.one (.int .i64)) false, .val false (.one (.sl cLink)) false], [.val true cNet true], fun a => impl_NetNew a.1 a.2.1 a.2.2⟩
def a_impl_NetNew : List (Nat × LoopAnn) := [(0, ⟨⟨[(21, false, [.dat (.int .i64)])], [(790528, .box [.own 1000000000, .same 788480, .own 1000000001]), (1000000000, .root cBridge true), (1000000001, .root cSay true)]⟩,
    ⟨[], [(790528, .box [.own 1000000300, .same 788480, .own 1000000301]), (1000000300, .root cBridge true), (1000000301, .root cSay true)]⟩, none⟩),
  (2, ⟨⟨[(31, false, [.dat (.int .i64)])], [(1839104, .box [.dat (.int .i64), .dat .str, .own 1000002000, .own 1000002001, .own 1000002002, .own 1000002003, .dat (.int .i64), .dat (.int .i64), .dat (.int .i64), .dat (.int .i64), .dat (.int .i64)]), (1000002000, .root cPt true), (1000002001, .root cFent true), (1000002002, .root cVrow true), (1000002003, .root (.one (.int .i64)) true)]⟩,
    ⟨[], [(1839104, .box [.dat (.int .i64), .dat .str, .own 1000002300, .own 1000002301, .own 1000002302, .own 1000002303, .dat (.int .i64), .dat (.int .i64), .dat (.int .i64), .dat (.int .i64), .dat (.int .i64)]), (1000002300, .root cPt true), (1000002301, .root cFent true), (1000002302, .root cVrow true), (1000002303, .root (.one (.int .i64)) true)]⟩, none⟩)]
theorem e_impl_NetNew : fnDen ⟨tis, fns_13⟩ a_impl_NetNew Try.f89 (codeOf Try.f89) [.val false (.one (.sl (.one (.int .i64)))) false, .val false (.one (.int .i64)) false, .val false (.one (.sl cLink)) false] [.val true cNet true] = fun a => impl_NetNew a.1 a.2.1 a.2.2 := by kernel_rfl
theorem m_impl_NetNew : Meets Try.prog 89 F_impl_NetNew := by
  have h := meets_of (ann := a_impl_NetNew) (ps := [.val false (.one (.sl (.one (.int .i64)))) false, .val false (.one (.int .i64)) false, .val false (.one (.sl cLink)) false]) (rs := [.val true cNet true]) g_13 mixed Try.func89 (by kernel_rfl) (by kernel_rfl : Try.f89.body = some (codeOf Try.f89))
  rw [e_impl_NetNew] at h
  exact h
noncomputable def fns_89 : List (FuncId × Fn) := (89, F_impl_NetNew) :: fns_13
theorem g_89 : Good Try.prog ⟨tis, fns_89⟩ := g_13.cons m_impl_NetNew
noncomputable def laws_ring_l0 (n0 : Int) (first1 : Int) (i7 : Int) (ids5 : List Int) (l6 : List Link) : Option ((Int × List Int × List Link) ⊕ (List Int × List Link)) :=
  cond (decide (i7 < n0))
    ((rem (w64 ((w64 (i7 - first1)) + n0)) n0).bind fun t22 =>
    (app ids5 [w64 (1 + t22)]).bind fun zs25 =>
    (rem (w64 (i7 + 1)) n0).bind fun t31 =>
    (app l6 [(i7, 1, t31, 0)]).bind fun zs34 =>
    some (.inl (w64 (i7 + 1), zs25, zs34)))
    (some (.inr (ids5, l6)))
noncomputable def laws_ring (n0 : Int) (first1 : Int) : Option Net :=
  (loop (fun z => laws_ring_l0 n0 first1 z.1 z.2.1 z.2.2) (0, ([] : List Int), ([] : List Link))).bind fun d =>
  (impl_NetNew d.1 3 d.2).bind fun t37 =>
  some t37
noncomputable def F_laws_ring : Fn := ⟨[.val false (.one (.int .i64)) false, .val false (.one (.int .i64)) false], [.val true cNet true], fun a => laws_ring a.1 a.2⟩
def a_laws_ring : List (Nat × LoopAnn) := [(0, ⟨⟨[(5, false, [.own 1000000000]), (6, false, [.own 1000000001]), (7, false, [.dat (.int .i64)])], [(1000000000, .root (.one (.int .i64)) true), (1000000001, .root cLink true)]⟩,
    ⟨[(5, false, [.own 1000000300]), (6, false, [.own 1000000301])], [(1000000300, .root (.one (.int .i64)) true), (1000000301, .root cLink true)]⟩, none⟩)]
theorem e_laws_ring : fnDen ⟨tis, fns_89⟩ a_laws_ring Try.f29 (codeOf Try.f29) [.val false (.one (.int .i64)) false, .val false (.one (.int .i64)) false] [.val true cNet true] = fun a => laws_ring a.1 a.2 := by kernel_rfl
theorem m_laws_ring : Meets Try.prog 29 F_laws_ring := by
  have h := meets_of (ann := a_laws_ring) (ps := [.val false (.one (.int .i64)) false, .val false (.one (.int .i64)) false]) (rs := [.val true cNet true]) g_89 mixed Try.func29 (by kernel_rfl) (by kernel_rfl : Try.f29.body = some (codeOf Try.f29))
  rw [e_laws_ring] at h
  exact h
noncomputable def fns_29 : List (FuncId × Fn) := (29, F_laws_ring) :: fns_89
theorem g_29 : Good Try.prog ⟨tis, fns_29⟩ := g_89.cons m_laws_ring
noncomputable def impl_sendsBy (n0 : Net) (b1 : Int) (p2 : Int) : Option Bool :=
  (at? n0.1 b1).bind fun x10 =>
  (at? n0.1 b1).bind fun x16 =>
  (impl_Sends x10.1 x16.2.2.1).bind fun t19 =>
  (impl_hasPort t19 p2).bind fun t21 =>
  some t21
noncomputable def F_impl_sendsBy : Fn := ⟨[.val true cNet false, .val false (.one (.int .i64)) false, .val false (.one (.int .i64)) false], [.val false (.one .bool) true], fun a => impl_sendsBy a.1 a.2.1 a.2.2⟩
def a_impl_sendsBy : List (Nat × LoopAnn) := []
theorem e_impl_sendsBy : fnDen ⟨tis, fns_29⟩ a_impl_sendsBy Try.f91 (codeOf Try.f91) [.val true cNet false, .val false (.one (.int .i64)) false, .val false (.one (.int .i64)) false] [.val false (.one .bool) true] = fun a => impl_sendsBy a.1 a.2.1 a.2.2 := by kernel_rfl
theorem m_impl_sendsBy : Meets Try.prog 91 F_impl_sendsBy := by
  have h := meets_of (ann := a_impl_sendsBy) (ps := [.val true cNet false, .val false (.one (.int .i64)) false, .val false (.one (.int .i64)) false]) (rs := [.val false (.one .bool) true]) g_29 mixed Try.func91 (by kernel_rfl) (by kernel_rfl : Try.f91.body = some (codeOf Try.f91))
  rw [e_impl_sendsBy] at h
  exact h
noncomputable def fns_91 : List (FuncId × Fn) := (91, F_impl_sendsBy) :: fns_29
theorem g_91 : Good Try.prog ⟨tis, fns_91⟩ := g_29.cons m_impl_sendsBy
noncomputable def impl_Live_l0 (n0 : Net) (t9 : Int) (out3 : List Int) : Option ((Int × List Int) ⊕ (List Int)) :=
  cond (decide (t9 < (n0.2.1.length : Int)))
    ((at? n0.2.1 t9).bind fun x12 =>
    (impl_LinkUp n0 t9).bind fun t16 =>
    (cond t16
      ((impl_sendsBy n0 x12.1 x12.2.1).bind fun t23 =>
      some t23)
      (some false)).bind fun t24 =>
    (cond t24
      ((impl_sendsBy n0 x12.2.2.1 x12.2.2.2).bind fun t31 =>
      some t31)
      (some false)).bind fun t32 =>
    cond t32
      ((app out3 [t9]).bind fun zs36 =>
      some (.inl (w64 (t9 + 1), zs36)))
      (some (.inl (w64 (t9 + 1), out3))))
    (some (.inr out3))
noncomputable def impl_Live (n0 : Net) : Option (List Int) :=
  (loop (fun z => impl_Live_l0 n0 z.1 z.2) (0, [])).bind fun d =>
  some d
noncomputable def F_impl_Live : Fn := ⟨[.val true cNet false], [.val false (.one (.sl (.one (.int .i64)))) true], fun a => impl_Live a⟩
def a_impl_Live : List (Nat × LoopAnn) := [(0, ⟨⟨[(3, false, [.own 1000000000]), (9, false, [.dat (.int .i64)]), (18, false, [.undef]), (19, false, [.undef]), (20, false, [.undef]), (21, false, [.undef]), (22, false, [.undef]), (23, false, [.undef]), (26, false, [.undef]), (27, false, [.undef]), (28, false, [.undef]), (29, false, [.undef]), (30, false, [.undef]), (31, false, [.undef])], [(1000000000, .root (.one (.int .i64)) true)]⟩,
    ⟨[(3, false, [.own 1000000300])], [(1000000300, .root (.one (.int .i64)) true)]⟩, none⟩)]
theorem e_impl_Live : fnDen ⟨tis, fns_91⟩ a_impl_Live Try.f30 (codeOf Try.f30) [.val true cNet false] [.val false (.one (.sl (.one (.int .i64)))) true] = fun a => impl_Live a := by kernel_rfl
theorem m_impl_Live : Meets Try.prog 30 F_impl_Live := by
  have h := meets_of (ann := a_impl_Live) (ps := [.val true cNet false]) (rs := [.val false (.one (.sl (.one (.int .i64)))) true]) g_91 mixed Try.func30 (by kernel_rfl) (by kernel_rfl : Try.f30.body = some (codeOf Try.f30))
  rw [e_impl_Live] at h
  exact h
noncomputable def fns_30 : List (FuncId × Fn) := (30, F_impl_Live) :: fns_91
theorem g_30 : Good Try.prog ⟨tis, fns_30⟩ := g_91.cons m_impl_Live
noncomputable def impl_knows (n0 : Net) (b1 : Int) (p2 : Int) (v3 : Vec) : Option Bool :=
  (impl_portAt n0 b1 p2).bind fun t15 =>
  (cond t15.2 (some t15.1.2.2.1) (some false)).bind fun t22 =>
  (cond t22
    (some (t15.1.2.2.2.1 == v3.1 && (t15.1.2.2.2.2.1 == v3.2.1 && (t15.1.2.2.2.2.2.1 == v3.2.2.1 && (t15.1.2.2.2.2.2.2.1 == v3.2.2.2.1 && (t15.1.2.2.2.2.2.2.2 == v3.2.2.2.2))))))
    (some false)).bind fun t28 =>
  some t28
noncomputable def F_impl_knows : Fn := ⟨[.val true cNet false, .val false (.one (.int .i64)) false, .val false (.one (.int .i64)) false, .val true cVec false], [.val false (.one .bool) true], fun a => impl_knows a.1 a.2.1 a.2.2.1 a.2.2.2⟩
def a_impl_knows : List (Nat × LoopAnn) := []
theorem e_impl_knows : fnDen ⟨tis, fns_30⟩ a_impl_knows Try.f92 (codeOf Try.f92) [.val true cNet false, .val false (.one (.int .i64)) false, .val false (.one (.int .i64)) false, .val true cVec false] [.val false (.one .bool) true] = fun a => impl_knows a.1 a.2.1 a.2.2.1 a.2.2.2 := by kernel_rfl
theorem m_impl_knows : Meets Try.prog 92 F_impl_knows := by
  have h := meets_of (ann := a_impl_knows) (ps := [.val true cNet false, .val false (.one (.int .i64)) false, .val false (.one (.int .i64)) false, .val true cVec false]) (rs := [.val false (.one .bool) true]) g_30 mixed Try.func92 (by kernel_rfl) (by kernel_rfl : Try.f92.body = some (codeOf Try.f92))
  rw [e_impl_knows] at h
  exact h
noncomputable def fns_92 : List (FuncId × Fn) := (92, F_impl_knows) :: fns_30
theorem g_92 : Good Try.prog ⟨tis, fns_92⟩ := g_30.cons m_impl_knows
noncomputable def impl_Agreed_l0 (n0 : Net) (t8 : Int) : Option (Int ⊕ (Unit ⊕ Bool)) :=
  cond (decide (t8 < (n0.2.1.length : Int)))
    ((at? n0.2.1 t8).bind fun x11 =>
    (impl_LinkUp n0 t8).bind fun t15 =>
    (cond t15
      ((impl_said n0 x11.2.2.1 x11.2.2.2).bind fun t27 =>
      (impl_knows n0 x11.1 x11.2.1 t27).bind fun t28 =>
      (cond (!t28)
        (some true)
        ((impl_said n0 x11.1 x11.2.1).bind fun t41 =>
        (impl_knows n0 x11.2.2.1 x11.2.2.2 t41).bind fun t42 =>
        some (!t42))).bind fun t44 =>
      some t44)
      (some false)).bind fun t45 =>
    cond t45 (some (.inr (.inr false))) (some (.inl (w64 (t8 + 1)))))
    (some (.inr (.inl ())))
noncomputable def impl_Agreed (n0 : Net) : Option Bool :=
  (loop (fun z => impl_Agreed_l0 n0 z) 0).bind (Sum.elim (fun d =>
    some true) (fun r => some r))
noncomputable def F_impl_Agreed : Fn := ⟨[.val true cNet false], [.val false (.one .bool) true], fun a => impl_Agreed a⟩
def a_impl_Agreed : List (Nat × LoopAnn) := [(0, ⟨⟨[(8, false, [.dat (.int .i64)]), (17, false, [.undef]), (18, false, [.undef]), (19, false, [.undef]), (20, false, [.undef]), (21, false, [.undef]), (22, false, [.undef]), (23, false, [.undef]), (24, false, [.undef]), (25, false, [.undef]), (26, false, [.undef]), (27, false, [.undef]), (28, false, [.undef]), (29, false, [.undef]), (30, false, [.undef]), (31, false, [.undef]), (32, false, [.undef]), (33, false, [.undef]), (34, false, [.undef]), (35, false, [.undef]), (36, false, [.undef]), (37, false, [.undef]), (38, false, [.undef]), (39, false, [.undef]), (40, false, [.undef]), (41, false, [.undef]), (42, false, [.undef]), (43, false, [.undef]), (44, false, [.undef])], []⟩,
    ⟨[], []⟩, some ⟨[(2, false, [.dat .bool])], []⟩⟩)]
theorem e_impl_Agreed : fnDen ⟨tis, fns_92⟩ a_impl_Agreed Try.f31 (codeOf Try.f31) [.val true cNet false] [.val false (.one .bool) true] = fun a => impl_Agreed a := by kernel_rfl
theorem m_impl_Agreed : Meets Try.prog 31 F_impl_Agreed := by
  have h := meets_of (ann := a_impl_Agreed) (ps := [.val true cNet false]) (rs := [.val false (.one .bool) true]) g_92 mixed Try.func31 (by kernel_rfl) (by kernel_rfl : Try.f31.body = some (codeOf Try.f31))
  rw [e_impl_Agreed] at h
  exact h
noncomputable def fns_31 : List (FuncId × Fn) := (31, F_impl_Agreed) :: fns_92
theorem g_31 : Good Try.prog ⟨tis, fns_31⟩ := g_92.cons m_impl_Agreed
noncomputable def impl_Net_speak_l0 (p0 : Net) (i1 : Int) (t11 : Int) (b2 : List Say) : Option ((Int × List Say) ⊕ (List Say)) :=
  cond (decide (t11 < (p0.2.1.length : Int)))
    ((ix p0.2.1.length t11).bind fun j14 =>
    (p0.2.1[j14]?).bind fun x15 =>
    (impl_LinkUp (p0.1, p0.2.1, b2) t11).bind fun t20 =>
    (cond (!t20) (some true) (some (decide ((b2.length : Int) ≥ 40)))).bind fun t29 =>
    cond t29
      (some (.inl (w64 (t11 + 1), b2)))
      (cond (x15.1 == i1)
        ((impl_said (p0.1, p0.2.1, b2) i1 x15.2.1).bind fun t46 =>
        (app b2 [(t11, false, t46.1, t46.2.1, t46.2.2.1, t46.2.2.2.1, t46.2.2.2.2)]).bind fun zs49 =>
        some (.inl (w64 (t11 + 1), zs49)))
        (cond (x15.2.2.1 == i1)
          ((impl_said (p0.1, p0.2.1, b2) i1 x15.2.2.2).bind fun t68 =>
          (app b2 [(t11, true, t68.1, t68.2.1, t68.2.2.1, t68.2.2.2.1, t68.2.2.2.2)]).bind fun zs71 =>
          some (.inl (w64 (t11 + 1), zs71)))
          (some (.inl (w64 (t11 + 1), b2))))))
    (some (.inr b2))
noncomputable def impl_Net_speak (p0 : Net) (i1 : Int) : Option Net :=
  (loop (fun z => impl_Net_speak_l0 p0 i1 z.1 z.2) (0, p0.2.2)).bind fun d =>
  some (p0.1, p0.2.1, d)
noncomputable def F_impl_Net_speak : Fn := ⟨[.ptr cNet true, .val false (.one (.int .i64)) false], [], fun a => impl_Net_speak a.1 a.2⟩
def a_impl_Net_speak : List (Nat × LoopAnn) := [(0, ⟨⟨[(11, false, [.dat (.int .i64)]), (23, false, [.undef]), (24, false, [.undef]), (25, false, [.undef]), (26, false, [.undef]), (27, false, [.undef]), (28, false, [.undef])], [(1, .box [.same 2, .same 3, .own 1000000000]), (1000000000, .root cSay true)]⟩,
    ⟨[], [(1, .box [.same 2, .same 3, .own 1000000300]), (1000000300, .root cSay true)]⟩, none⟩)]
theorem e_impl_Net_speak : fnDen ⟨tis, fns_31⟩ a_impl_Net_speak Try.f95 (codeOf Try.f95) [.ptr cNet true, .val false (.one (.int .i64)) false] [] = fun a => impl_Net_speak a.1 a.2 := by kernel_rfl
theorem m_impl_Net_speak : Meets Try.prog 95 F_impl_Net_speak := by
  have h := meets_of (ann := a_impl_Net_speak) (ps := [.ptr cNet true, .val false (.one (.int .i64)) false]) (rs := []) g_31 mixed Try.func95 (by kernel_rfl) (by kernel_rfl : Try.f95.body = some (codeOf Try.f95))
  rw [e_impl_Net_speak] at h
  exact h
noncomputable def fns_95 : List (FuncId × Fn) := (95, F_impl_Net_speak) :: fns_31
theorem g_95 : Good Try.prog ⟨tis, fns_95⟩ := g_31.cons m_impl_Net_speak
noncomputable def impl_AgeAll_l0 (l0 : List Fent) (t8 : Int) (out3 : List Fent) : Option ((Int × List Fent) ⊕ (List Fent)) :=
  cond (decide (t8 < (l0.length : Int)))
    ((at? l0 t8).bind fun x10 =>
    cond (!x10.2.2.2.2)
      (cond (decide (x10.2.2.2.1 ≥ 4))
        (some (.inl (w64 (t8 + 1), out3)))
        ((app out3 [(x10.1, x10.2.1, x10.2.2.1, w64 (x10.2.2.2.1 + 1), x10.2.2.2.2)]).bind fun zs25 =>
        some (.inl (w64 (t8 + 1), zs25))))
      ((app out3 [x10]).bind fun zs25_1 =>
      some (.inl (w64 (t8 + 1), zs25_1))))
    (some (.inr out3))
noncomputable def impl_AgeAll (l0 : List Fent) : Option (List Fent) :=
  (loop (fun z => impl_AgeAll_l0 l0 z.1 z.2) (0, [])).bind fun d =>
  some d
noncomputable def F_impl_AgeAll : Fn := ⟨[.val false (.one (.sl cFent)) false], [.val false (.one (.sl cFent)) true], fun a => impl_AgeAll a⟩
def a_impl_AgeAll : List (Nat × LoopAnn) := [(0, ⟨⟨[(3, false, [.own 1000000000]), (8, false, [.dat (.int .i64)])], [(1000000000, .root cFent true)]⟩,
    ⟨[(3, false, [.own 1000000300])], [(1000000300, .root cFent true)]⟩, none⟩)]
theorem e_impl_AgeAll : fnDen ⟨tis, fns_95⟩ a_impl_AgeAll Try.f170 (codeOf Try.f170) [.val false (.one (.sl cFent)) false] [.val false (.one (.sl cFent)) true] = fun a => impl_AgeAll a := by kernel_rfl
theorem m_impl_AgeAll : Meets Try.prog 170 F_impl_AgeAll := by
  have h := meets_of (ann := a_impl_AgeAll) (ps := [.val false (.one (.sl cFent)) false]) (rs := [.val false (.one (.sl cFent)) true]) g_95 mixed Try.func170 (by kernel_rfl) (by kernel_rfl : Try.f170.body = some (codeOf Try.f170))
  rw [e_impl_AgeAll] at h
  exact h
noncomputable def fns_170 : List (FuncId × Fn) := (170, F_impl_AgeAll) :: fns_95
theorem g_170 : Good Try.prog ⟨tis, fns_170⟩ := g_95.cons m_impl_AgeAll
noncomputable def impl_Tick (b0 : Bridge) : Option Bridge :=
  (impl_copyBridge b0).bind fun t5 =>
  (impl_BridgeOk b0).bind fun t7 =>
  cond t7
    ((impl_more b0.2.2.2.2.2.2.1).bind fun t10 =>
    (impl_AgeAll b0.2.2.2.1).bind fun t14 =>
    (impl_Bridge_turn (t5.1, t5.2.1, t5.2.2.1, t14, t5.2.2.2.2.1, t5.2.2.2.2.2.1, t10, t5.2.2.2.2.2.2.2.1, t5.2.2.2.2.2.2.2.2.1, t5.2.2.2.2.2.2.2.2.2.1, t5.2.2.2.2.2.2.2.2.2.2)).bind fun t16 =>
    some t16)
    (some t5)
noncomputable def F_impl_Tick : Fn := ⟨[.val true cBridge false], [.val true cBridge true], fun a => impl_Tick a⟩
def a_impl_Tick : List (Nat × LoopAnn) := []
theorem e_impl_Tick : fnDen ⟨tis, fns_170⟩ a_impl_Tick Try.f96 (codeOf Try.f96) [.val true cBridge false] [.val true cBridge true] = fun a => impl_Tick a := by kernel_rfl
theorem m_impl_Tick : Meets Try.prog 96 F_impl_Tick := by
  have h := meets_of (ann := a_impl_Tick) (ps := [.val true cBridge false]) (rs := [.val true cBridge true]) g_170 mixed Try.func96 (by kernel_rfl) (by kernel_rfl : Try.f96.body = some (codeOf Try.f96))
  rw [e_impl_Tick] at h
  exact h
noncomputable def fns_96 : List (FuncId × Fn) := (96, F_impl_Tick) :: fns_170
theorem g_96 : Good Try.prog ⟨tis, fns_96⟩ := g_170.cons m_impl_Tick
noncomputable def impl_Net_arrive (p0 : Net) (i1 : Int) (a2 : Bool) : Option Net :=
  (ix p0.2.2.length i1).bind fun j13 =>
  (p0.2.2[j13]?).bind fun x14 =>
  (cutIx p0.2.2.length 0 i1).bind fun p =>
  (app [] ((p0.2.2.take p.2).drop p.1)).bind fun zs22 =>
  (cutIx p0.2.2.length (w64 (i1 + 1)) (p0.2.2.length : Int)).bind fun p_1 =>
  (app zs22 ((p0.2.2.take p_1.2).drop p_1.1)).bind fun zs30 =>
  (cond (!a2)
    (some true)
    ((impl_LinkUp (p0.1, p0.2.1, zs30) x14.1).bind fun t41 =>
    some (!t41))).bind fun t43 =>
  cond t43
    (some (p0.1, p0.2.1, zs30))
    ((ix p0.2.1.length x14.1).bind fun j50 =>
    (p0.2.1[j50]?).bind fun x51 =>
    cond x14.2.1
      ((impl_Net_hear (p0.1, p0.2.1, zs30) x51.1 x51.2.1 x14.2.2).bind fun t61 =>
      some t61)
      ((impl_Net_hear (p0.1, p0.2.1, zs30) x51.2.2.1 x51.2.2.2 x14.2.2).bind fun t69 =>
      some t69))
noncomputable def F_impl_Net_arrive : Fn := ⟨[.ptr cNet true, .val false (.one (.int .i64)) false, .val false (.one .bool) false], [], fun a => impl_Net_arrive a.1 a.2.1 a.2.2⟩
def a_impl_Net_arrive : List (Nat × LoopAnn) := []
theorem e_impl_Net_arrive : fnDen ⟨tis, fns_96⟩ a_impl_Net_arrive Try.f97 (codeOf Try.f97) [.ptr cNet true, .val false (.one (.int .i64)) false, .val false (.one .bool) false] [] = fun a => impl_Net_arrive a.1 a.2.1 a.2.2 := by kernel_rfl
theorem m_impl_Net_arrive : Meets Try.prog 97 F_impl_Net_arrive := by
  have h := meets_of (ann := a_impl_Net_arrive) (ps := [.ptr cNet true, .val false (.one (.int .i64)) false, .val false (.one .bool) false]) (rs := []) g_96 mixed Try.func97 (by kernel_rfl) (by kernel_rfl : Try.f97.body = some (codeOf Try.f97))
  rw [e_impl_Net_arrive] at h
  exact h
noncomputable def fns_97 : List (FuncId × Fn) := (97, F_impl_Net_arrive) :: fns_96
theorem g_97 : Good Try.prog ⟨tis, fns_97⟩ := g_96.cons m_impl_Net_arrive
noncomputable def impl_Net_link (n0 : Net) (k1 : Int) (up2 : Bool) : Option Net :=
  (impl_LinkUp n0 k1).bind fun t11 =>
  cond (t11 == up2)
    (some n0)
    ((ix n0.2.1.length k1).bind fun j19 =>
    (n0.2.1[j19]?).bind fun x20 =>
    (ix n0.1.length x20.1).bind fun j33 =>
    (n0.1[j33]?).bind fun x34 =>
    (impl_LinkSet x34 x20.2.1 up2).bind fun t38 =>
    (ix n0.1.length x20.1).bind fun j39 =>
    (n0.1[j39]?).bind fun x =>
    (ix (n0.1.set j39 t38).length x20.2.2.1).bind fun j52 =>
    ((n0.1.set j39 t38)[j52]?).bind fun x53 =>
    (impl_LinkSet x53 x20.2.2.2 up2).bind fun t57 =>
    (ix (n0.1.set j39 t38).length x20.2.2.1).bind fun j58 =>
    ((n0.1.set j39 t38)[j58]?).bind fun x_1 =>
    some ((n0.1.set j39 t38).set j58 t57, n0.2.1, n0.2.2))
noncomputable def F_impl_Net_link : Fn := ⟨[.ptr cNet true, .val false (.one (.int .i64)) false, .val false (.one .bool) false], [], fun a => impl_Net_link a.1 a.2.1 a.2.2⟩
def a_impl_Net_link : List (Nat × LoopAnn) := []
theorem e_impl_Net_link : fnDen ⟨tis, fns_97⟩ a_impl_Net_link Try.f98 (codeOf Try.f98) [.ptr cNet true, .val false (.one (.int .i64)) false, .val false (.one .bool) false] [] = fun a => impl_Net_link a.1 a.2.1 a.2.2 := by kernel_rfl
theorem m_impl_Net_link : Meets Try.prog 98 F_impl_Net_link := by
  have h := meets_of (ann := a_impl_Net_link) (ps := [.ptr cNet true, .val false (.one (.int .i64)) false, .val false (.one .bool) false]) (rs := []) g_97 mixed Try.func98 (by kernel_rfl) (by kernel_rfl : Try.f98.body = some (codeOf Try.f98))
  rw [e_impl_Net_link] at h
  exact h
noncomputable def fns_98 : List (FuncId × Fn) := (98, F_impl_Net_link) :: fns_97
theorem g_98 : Good Try.prog ⟨tis, fns_98⟩ := g_97.cons m_impl_Net_link
noncomputable def impl_Step (p0 : Net) (i1 : Event) : Option (Net × Bool) :=
  (impl_copyNet p0).bind fun t9 =>
  (impl_NetOk p0).bind fun t11 =>
  cond (!t11)
    (some (t9, false))
    (cond (i1.1 == 1)
      (cond (i1.1 == 1)
        ((impl_in i1.2 0 (w64 ((p0.1.length : Int) - 1))).bind fun t38 =>
        cond (!t38)
          (some (t9, false))
          (cond (i1.1 == 1)
            ((impl_Net_speak t9 i1.2).bind fun t53 =>
            some (t53, true))
            (cond (i1.1 == 6)
              ((at? p0.1 i1.2).bind fun x64 =>
              (impl_Tick x64).bind fun t66 =>
              (ix t9.1.length i1.2).bind fun j67 =>
              (t9.1[j67]?).bind fun x =>
              some ((t9.1.set j67 t66, t9.2.1, t9.2.2), true))
              (cond (i1.1 == 2)
                (cond (i1.1 == 2)
                  ((impl_Net_arrive t9 i1.2 (i1.1 == 2)).bind fun t76 =>
                  some (t76, true))
                  ((impl_Net_link t9 i1.2 (i1.1 == 5)).bind fun t48 =>
                  some (t48, true)))
                (cond (i1.1 == 3)
                  ((impl_Net_arrive t9 i1.2 (i1.1 == 2)).bind fun t76_1 =>
                  some (t76_1, true))
                  ((impl_Net_link t9 i1.2 (i1.1 == 5)).bind fun t48_1 =>
                  some (t48_1, true)))))))
        (cond (i1.1 == 2)
          (cond (i1.1 == 2)
            ((impl_in i1.2 0 (w64 ((p0.2.2.length : Int) - 1))).bind fun t38_1 =>
            cond (!t38_1)
              (some (t9, false))
              (cond (i1.1 == 1)
                ((impl_Net_speak t9 i1.2).bind fun t53_1 =>
                some (t53_1, true))
                (cond (i1.1 == 6)
                  ((at? p0.1 i1.2).bind fun x64_1 =>
                  (impl_Tick x64_1).bind fun t66_1 =>
                  (ix t9.1.length i1.2).bind fun j67_1 =>
                  (t9.1[j67_1]?).bind fun x_1 =>
                  some ((t9.1.set j67_1 t66_1, t9.2.1, t9.2.2), true))
                  (cond (i1.1 == 2)
                    (cond (i1.1 == 2)
                      ((impl_Net_arrive t9 i1.2 (i1.1 == 2)).bind fun t76_2 =>
                      some (t76_2, true))
                      ((impl_Net_link t9 i1.2 (i1.1 == 5)).bind fun t48_2 =>
                      some (t48_2, true)))
                    (cond (i1.1 == 3)
                      ((impl_Net_arrive t9 i1.2 (i1.1 == 2)).bind fun t76_3 =>
                      some (t76_3, true))
                      ((impl_Net_link t9 i1.2 (i1.1 == 5)).bind fun t48_3 =>
                      some (t48_3, true)))))))
            (cond (i1.1 == 4)
              (cond (i1.1 == 4)
                ((impl_in i1.2 0 (w64 ((p0.2.1.length : Int) - 1))).bind fun t38_2 =>
                cond (!t38_2)
                  (some (t9, false))
                  (cond (i1.1 == 1)
                    ((impl_Net_speak t9 i1.2).bind fun t53_2 =>
                    some (t53_2, true))
                    (cond (i1.1 == 6)
                      ((at? p0.1 i1.2).bind fun x64_2 =>
                      (impl_Tick x64_2).bind fun t66_2 =>
                      (ix t9.1.length i1.2).bind fun j67_2 =>
                      (t9.1[j67_2]?).bind fun x_2 =>
                      some ((t9.1.set j67_2 t66_2, t9.2.1, t9.2.2), true))
                      (cond (i1.1 == 2)
                        (cond (i1.1 == 2)
                          ((impl_Net_arrive t9 i1.2 (i1.1 == 2)).bind fun t76_4 =>
                          some (t76_4, true))
                          ((impl_Net_link t9 i1.2 (i1.1 == 5)).bind fun t48_4 =>
                          some (t48_4, true)))
                        (cond (i1.1 == 3)
                          ((impl_Net_arrive t9 i1.2 (i1.1 == 2)).bind fun t76_5 =>
                          some (t76_5, true))
                          ((impl_Net_link t9 i1.2 (i1.1 == 5)).bind fun t48_5 =>
                          some (t48_5, true)))))))
                ((impl_in i1.2 0 (w64 (0 - 1))).bind fun t38_3 =>
                cond (!t38_3)
                  (some (t9, false))
                  (cond (i1.1 == 1)
                    ((impl_Net_speak t9 i1.2).bind fun t53_3 =>
                    some (t53_3, true))
                    (cond (i1.1 == 6)
                      ((at? p0.1 i1.2).bind fun x64_3 =>
                      (impl_Tick x64_3).bind fun t66_3 =>
                      (ix t9.1.length i1.2).bind fun j67_3 =>
                      (t9.1[j67_3]?).bind fun x_3 =>
                      some ((t9.1.set j67_3 t66_3, t9.2.1, t9.2.2), true))
                      (cond (i1.1 == 2)
                        (cond (i1.1 == 2)
                          ((impl_Net_arrive t9 i1.2 (i1.1 == 2)).bind fun t76_6 =>
                          some (t76_6, true))
                          ((impl_Net_link t9 i1.2 (i1.1 == 5)).bind fun t48_6 =>
                          some (t48_6, true)))
                        (cond (i1.1 == 3)
                          ((impl_Net_arrive t9 i1.2 (i1.1 == 2)).bind fun t76_7 =>
                          some (t76_7, true))
                          ((impl_Net_link t9 i1.2 (i1.1 == 5)).bind fun t48_7 =>
                          some (t48_7, true))))))))
              (cond (i1.1 == 5)
                ((impl_in i1.2 0 (w64 ((p0.2.1.length : Int) - 1))).bind fun t38_4 =>
                cond (!t38_4)
                  (some (t9, false))
                  (cond (i1.1 == 1)
                    ((impl_Net_speak t9 i1.2).bind fun t53_4 =>
                    some (t53_4, true))
                    (cond (i1.1 == 6)
                      ((at? p0.1 i1.2).bind fun x64_4 =>
                      (impl_Tick x64_4).bind fun t66_4 =>
                      (ix t9.1.length i1.2).bind fun j67_4 =>
                      (t9.1[j67_4]?).bind fun x_4 =>
                      some ((t9.1.set j67_4 t66_4, t9.2.1, t9.2.2), true))
                      (cond (i1.1 == 2)
                        (cond (i1.1 == 2)
                          ((impl_Net_arrive t9 i1.2 (i1.1 == 2)).bind fun t76_8 =>
                          some (t76_8, true))
                          ((impl_Net_link t9 i1.2 (i1.1 == 5)).bind fun t48_8 =>
                          some (t48_8, true)))
                        (cond (i1.1 == 3)
                          ((impl_Net_arrive t9 i1.2 (i1.1 == 2)).bind fun t76_9 =>
                          some (t76_9, true))
                          ((impl_Net_link t9 i1.2 (i1.1 == 5)).bind fun t48_9 =>
                          some (t48_9, true)))))))
                ((impl_in i1.2 0 (w64 (0 - 1))).bind fun t38_5 =>
                cond (!t38_5)
                  (some (t9, false))
                  (cond (i1.1 == 1)
                    ((impl_Net_speak t9 i1.2).bind fun t53_5 =>
                    some (t53_5, true))
                    (cond (i1.1 == 6)
                      ((at? p0.1 i1.2).bind fun x64_5 =>
                      (impl_Tick x64_5).bind fun t66_5 =>
                      (ix t9.1.length i1.2).bind fun j67_5 =>
                      (t9.1[j67_5]?).bind fun x_5 =>
                      some ((t9.1.set j67_5 t66_5, t9.2.1, t9.2.2), true))
                      (cond (i1.1 == 2)
                        (cond (i1.1 == 2)
                          ((impl_Net_arrive t9 i1.2 (i1.1 == 2)).bind fun t76_10 =>
                          some (t76_10, true))
                          ((impl_Net_link t9 i1.2 (i1.1 == 5)).bind fun t48_10 =>
                          some (t48_10, true)))
                        (cond (i1.1 == 3)
                          ((impl_Net_arrive t9 i1.2 (i1.1 == 2)).bind fun t76_11 =>
                          some (t76_11, true))
                          ((impl_Net_link t9 i1.2 (i1.1 == 5)).bind fun t48_11 =>
                          some (t48_11, true))))))))))
          (cond (i1.1 == 3)
            ((impl_in i1.2 0 (w64 ((p0.2.2.length : Int) - 1))).bind fun t38_6 =>
            cond (!t38_6)
              (some (t9, false))
              (cond (i1.1 == 1)
                ((impl_Net_speak t9 i1.2).bind fun t53_6 =>
                some (t53_6, true))
                (cond (i1.1 == 6)
                  ((at? p0.1 i1.2).bind fun x64_6 =>
                  (impl_Tick x64_6).bind fun t66_6 =>
                  (ix t9.1.length i1.2).bind fun j67_6 =>
                  (t9.1[j67_6]?).bind fun x_6 =>
                  some ((t9.1.set j67_6 t66_6, t9.2.1, t9.2.2), true))
                  (cond (i1.1 == 2)
                    (cond (i1.1 == 2)
                      ((impl_Net_arrive t9 i1.2 (i1.1 == 2)).bind fun t76_12 =>
                      some (t76_12, true))
                      ((impl_Net_link t9 i1.2 (i1.1 == 5)).bind fun t48_12 =>
                      some (t48_12, true)))
                    (cond (i1.1 == 3)
                      ((impl_Net_arrive t9 i1.2 (i1.1 == 2)).bind fun t76_13 =>
                      some (t76_13, true))
                      ((impl_Net_link t9 i1.2 (i1.1 == 5)).bind fun t48_13 =>
                      some (t48_13, true)))))))
            (cond (i1.1 == 4)
              (cond (i1.1 == 4)
                ((impl_in i1.2 0 (w64 ((p0.2.1.length : Int) - 1))).bind fun t38_7 =>
                cond (!t38_7)
                  (some (t9, false))
                  (cond (i1.1 == 1)
                    ((impl_Net_speak t9 i1.2).bind fun t53_7 =>
                    some (t53_7, true))
                    (cond (i1.1 == 6)
                      ((at? p0.1 i1.2).bind fun x64_7 =>
                      (impl_Tick x64_7).bind fun t66_7 =>
                      (ix t9.1.length i1.2).bind fun j67_7 =>
                      (t9.1[j67_7]?).bind fun x_7 =>
                      some ((t9.1.set j67_7 t66_7, t9.2.1, t9.2.2), true))
                      (cond (i1.1 == 2)
                        (cond (i1.1 == 2)
                          ((impl_Net_arrive t9 i1.2 (i1.1 == 2)).bind fun t76_14 =>
                          some (t76_14, true))
                          ((impl_Net_link t9 i1.2 (i1.1 == 5)).bind fun t48_14 =>
                          some (t48_14, true)))
                        (cond (i1.1 == 3)
                          ((impl_Net_arrive t9 i1.2 (i1.1 == 2)).bind fun t76_15 =>
                          some (t76_15, true))
                          ((impl_Net_link t9 i1.2 (i1.1 == 5)).bind fun t48_15 =>
                          some (t48_15, true)))))))
                ((impl_in i1.2 0 (w64 (0 - 1))).bind fun t38_8 =>
                cond (!t38_8)
                  (some (t9, false))
                  (cond (i1.1 == 1)
                    ((impl_Net_speak t9 i1.2).bind fun t53_8 =>
                    some (t53_8, true))
                    (cond (i1.1 == 6)
                      ((at? p0.1 i1.2).bind fun x64_8 =>
                      (impl_Tick x64_8).bind fun t66_8 =>
                      (ix t9.1.length i1.2).bind fun j67_8 =>
                      (t9.1[j67_8]?).bind fun x_8 =>
                      some ((t9.1.set j67_8 t66_8, t9.2.1, t9.2.2), true))
                      (cond (i1.1 == 2)
                        (cond (i1.1 == 2)
                          ((impl_Net_arrive t9 i1.2 (i1.1 == 2)).bind fun t76_16 =>
                          some (t76_16, true))
                          ((impl_Net_link t9 i1.2 (i1.1 == 5)).bind fun t48_16 =>
                          some (t48_16, true)))
                        (cond (i1.1 == 3)
                          ((impl_Net_arrive t9 i1.2 (i1.1 == 2)).bind fun t76_17 =>
                          some (t76_17, true))
                          ((impl_Net_link t9 i1.2 (i1.1 == 5)).bind fun t48_17 =>
                          some (t48_17, true))))))))
              (cond (i1.1 == 5)
                ((impl_in i1.2 0 (w64 ((p0.2.1.length : Int) - 1))).bind fun t38_9 =>
                cond (!t38_9)
                  (some (t9, false))
                  (cond (i1.1 == 1)
                    ((impl_Net_speak t9 i1.2).bind fun t53_9 =>
                    some (t53_9, true))
                    (cond (i1.1 == 6)
                      ((at? p0.1 i1.2).bind fun x64_9 =>
                      (impl_Tick x64_9).bind fun t66_9 =>
                      (ix t9.1.length i1.2).bind fun j67_9 =>
                      (t9.1[j67_9]?).bind fun x_9 =>
                      some ((t9.1.set j67_9 t66_9, t9.2.1, t9.2.2), true))
                      (cond (i1.1 == 2)
                        (cond (i1.1 == 2)
                          ((impl_Net_arrive t9 i1.2 (i1.1 == 2)).bind fun t76_18 =>
                          some (t76_18, true))
                          ((impl_Net_link t9 i1.2 (i1.1 == 5)).bind fun t48_18 =>
                          some (t48_18, true)))
                        (cond (i1.1 == 3)
                          ((impl_Net_arrive t9 i1.2 (i1.1 == 2)).bind fun t76_19 =>
                          some (t76_19, true))
                          ((impl_Net_link t9 i1.2 (i1.1 == 5)).bind fun t48_19 =>
                          some (t48_19, true)))))))
                ((impl_in i1.2 0 (w64 (0 - 1))).bind fun t38_10 =>
                cond (!t38_10)
                  (some (t9, false))
                  (cond (i1.1 == 1)
                    ((impl_Net_speak t9 i1.2).bind fun t53_10 =>
                    some (t53_10, true))
                    (cond (i1.1 == 6)
                      ((at? p0.1 i1.2).bind fun x64_10 =>
                      (impl_Tick x64_10).bind fun t66_10 =>
                      (ix t9.1.length i1.2).bind fun j67_10 =>
                      (t9.1[j67_10]?).bind fun x_10 =>
                      some ((t9.1.set j67_10 t66_10, t9.2.1, t9.2.2), true))
                      (cond (i1.1 == 2)
                        (cond (i1.1 == 2)
                          ((impl_Net_arrive t9 i1.2 (i1.1 == 2)).bind fun t76_20 =>
                          some (t76_20, true))
                          ((impl_Net_link t9 i1.2 (i1.1 == 5)).bind fun t48_20 =>
                          some (t48_20, true)))
                        (cond (i1.1 == 3)
                          ((impl_Net_arrive t9 i1.2 (i1.1 == 2)).bind fun t76_21 =>
                          some (t76_21, true))
                          ((impl_Net_link t9 i1.2 (i1.1 == 5)).bind fun t48_21 =>
                          some (t48_21, true))))))))))))
      (cond (i1.1 == 6)
        ((impl_in i1.2 0 (w64 ((p0.1.length : Int) - 1))).bind fun t38_11 =>
        cond (!t38_11)
          (some (t9, false))
          (cond (i1.1 == 1)
            ((impl_Net_speak t9 i1.2).bind fun t53_11 =>
            some (t53_11, true))
            (cond (i1.1 == 6)
              ((at? p0.1 i1.2).bind fun x64_11 =>
              (impl_Tick x64_11).bind fun t66_11 =>
              (ix t9.1.length i1.2).bind fun j67_11 =>
              (t9.1[j67_11]?).bind fun x_11 =>
              some ((t9.1.set j67_11 t66_11, t9.2.1, t9.2.2), true))
              (cond (i1.1 == 2)
                (cond (i1.1 == 2)
                  ((impl_Net_arrive t9 i1.2 (i1.1 == 2)).bind fun t76_22 =>
                  some (t76_22, true))
                  ((impl_Net_link t9 i1.2 (i1.1 == 5)).bind fun t48_22 =>
                  some (t48_22, true)))
                (cond (i1.1 == 3)
                  ((impl_Net_arrive t9 i1.2 (i1.1 == 2)).bind fun t76_23 =>
                  some (t76_23, true))
                  ((impl_Net_link t9 i1.2 (i1.1 == 5)).bind fun t48_23 =>
                  some (t48_23, true)))))))
        (cond (i1.1 == 2)
          (cond (i1.1 == 2)
            ((impl_in i1.2 0 (w64 ((p0.2.2.length : Int) - 1))).bind fun t38_12 =>
            cond (!t38_12)
              (some (t9, false))
              (cond (i1.1 == 1)
                ((impl_Net_speak t9 i1.2).bind fun t53_12 =>
                some (t53_12, true))
                (cond (i1.1 == 6)
                  ((at? p0.1 i1.2).bind fun x64_12 =>
                  (impl_Tick x64_12).bind fun t66_12 =>
                  (ix t9.1.length i1.2).bind fun j67_12 =>
                  (t9.1[j67_12]?).bind fun x_12 =>
                  some ((t9.1.set j67_12 t66_12, t9.2.1, t9.2.2), true))
                  (cond (i1.1 == 2)
                    (cond (i1.1 == 2)
                      ((impl_Net_arrive t9 i1.2 (i1.1 == 2)).bind fun t76_24 =>
                      some (t76_24, true))
                      ((impl_Net_link t9 i1.2 (i1.1 == 5)).bind fun t48_24 =>
                      some (t48_24, true)))
                    (cond (i1.1 == 3)
                      ((impl_Net_arrive t9 i1.2 (i1.1 == 2)).bind fun t76_25 =>
                      some (t76_25, true))
                      ((impl_Net_link t9 i1.2 (i1.1 == 5)).bind fun t48_25 =>
                      some (t48_25, true)))))))
            (cond (i1.1 == 4)
              (cond (i1.1 == 4)
                ((impl_in i1.2 0 (w64 ((p0.2.1.length : Int) - 1))).bind fun t38_13 =>
                cond (!t38_13)
                  (some (t9, false))
                  (cond (i1.1 == 1)
                    ((impl_Net_speak t9 i1.2).bind fun t53_13 =>
                    some (t53_13, true))
                    (cond (i1.1 == 6)
                      ((at? p0.1 i1.2).bind fun x64_13 =>
                      (impl_Tick x64_13).bind fun t66_13 =>
                      (ix t9.1.length i1.2).bind fun j67_13 =>
                      (t9.1[j67_13]?).bind fun x_13 =>
                      some ((t9.1.set j67_13 t66_13, t9.2.1, t9.2.2), true))
                      (cond (i1.1 == 2)
                        (cond (i1.1 == 2)
                          ((impl_Net_arrive t9 i1.2 (i1.1 == 2)).bind fun t76_26 =>
                          some (t76_26, true))
                          ((impl_Net_link t9 i1.2 (i1.1 == 5)).bind fun t48_26 =>
                          some (t48_26, true)))
                        (cond (i1.1 == 3)
                          ((impl_Net_arrive t9 i1.2 (i1.1 == 2)).bind fun t76_27 =>
                          some (t76_27, true))
                          ((impl_Net_link t9 i1.2 (i1.1 == 5)).bind fun t48_27 =>
                          some (t48_27, true)))))))
                ((impl_in i1.2 0 (w64 (0 - 1))).bind fun t38_14 =>
                cond (!t38_14)
                  (some (t9, false))
                  (cond (i1.1 == 1)
                    ((impl_Net_speak t9 i1.2).bind fun t53_14 =>
                    some (t53_14, true))
                    (cond (i1.1 == 6)
                      ((at? p0.1 i1.2).bind fun x64_14 =>
                      (impl_Tick x64_14).bind fun t66_14 =>
                      (ix t9.1.length i1.2).bind fun j67_14 =>
                      (t9.1[j67_14]?).bind fun x_14 =>
                      some ((t9.1.set j67_14 t66_14, t9.2.1, t9.2.2), true))
                      (cond (i1.1 == 2)
                        (cond (i1.1 == 2)
                          ((impl_Net_arrive t9 i1.2 (i1.1 == 2)).bind fun t76_28 =>
                          some (t76_28, true))
                          ((impl_Net_link t9 i1.2 (i1.1 == 5)).bind fun t48_28 =>
                          some (t48_28, true)))
                        (cond (i1.1 == 3)
                          ((impl_Net_arrive t9 i1.2 (i1.1 == 2)).bind fun t76_29 =>
                          some (t76_29, true))
                          ((impl_Net_link t9 i1.2 (i1.1 == 5)).bind fun t48_29 =>
                          some (t48_29, true))))))))
              (cond (i1.1 == 5)
                ((impl_in i1.2 0 (w64 ((p0.2.1.length : Int) - 1))).bind fun t38_15 =>
                cond (!t38_15)
                  (some (t9, false))
                  (cond (i1.1 == 1)
                    ((impl_Net_speak t9 i1.2).bind fun t53_15 =>
                    some (t53_15, true))
                    (cond (i1.1 == 6)
                      ((at? p0.1 i1.2).bind fun x64_15 =>
                      (impl_Tick x64_15).bind fun t66_15 =>
                      (ix t9.1.length i1.2).bind fun j67_15 =>
                      (t9.1[j67_15]?).bind fun x_15 =>
                      some ((t9.1.set j67_15 t66_15, t9.2.1, t9.2.2), true))
                      (cond (i1.1 == 2)
                        (cond (i1.1 == 2)
                          ((impl_Net_arrive t9 i1.2 (i1.1 == 2)).bind fun t76_30 =>
                          some (t76_30, true))
                          ((impl_Net_link t9 i1.2 (i1.1 == 5)).bind fun t48_30 =>
                          some (t48_30, true)))
                        (cond (i1.1 == 3)
                          ((impl_Net_arrive t9 i1.2 (i1.1 == 2)).bind fun t76_31 =>
                          some (t76_31, true))
                          ((impl_Net_link t9 i1.2 (i1.1 == 5)).bind fun t48_31 =>
                          some (t48_31, true)))))))
                ((impl_in i1.2 0 (w64 (0 - 1))).bind fun t38_16 =>
                cond (!t38_16)
                  (some (t9, false))
                  (cond (i1.1 == 1)
                    ((impl_Net_speak t9 i1.2).bind fun t53_16 =>
                    some (t53_16, true))
                    (cond (i1.1 == 6)
                      ((at? p0.1 i1.2).bind fun x64_16 =>
                      (impl_Tick x64_16).bind fun t66_16 =>
                      (ix t9.1.length i1.2).bind fun j67_16 =>
                      (t9.1[j67_16]?).bind fun x_16 =>
                      some ((t9.1.set j67_16 t66_16, t9.2.1, t9.2.2), true))
                      (cond (i1.1 == 2)
                        (cond (i1.1 == 2)
                          ((impl_Net_arrive t9 i1.2 (i1.1 == 2)).bind fun t76_32 =>
                          some (t76_32, true))
                          ((impl_Net_link t9 i1.2 (i1.1 == 5)).bind fun t48_32 =>
                          some (t48_32, true)))
                        (cond (i1.1 == 3)
                          ((impl_Net_arrive t9 i1.2 (i1.1 == 2)).bind fun t76_33 =>
                          some (t76_33, true))
                          ((impl_Net_link t9 i1.2 (i1.1 == 5)).bind fun t48_33 =>
                          some (t48_33, true))))))))))
          (cond (i1.1 == 3)
            ((impl_in i1.2 0 (w64 ((p0.2.2.length : Int) - 1))).bind fun t38_17 =>
            cond (!t38_17)
              (some (t9, false))
              (cond (i1.1 == 1)
                ((impl_Net_speak t9 i1.2).bind fun t53_17 =>
                some (t53_17, true))
                (cond (i1.1 == 6)
                  ((at? p0.1 i1.2).bind fun x64_17 =>
                  (impl_Tick x64_17).bind fun t66_17 =>
                  (ix t9.1.length i1.2).bind fun j67_17 =>
                  (t9.1[j67_17]?).bind fun x_17 =>
                  some ((t9.1.set j67_17 t66_17, t9.2.1, t9.2.2), true))
                  (cond (i1.1 == 2)
                    (cond (i1.1 == 2)
                      ((impl_Net_arrive t9 i1.2 (i1.1 == 2)).bind fun t76_34 =>
                      some (t76_34, true))
                      ((impl_Net_link t9 i1.2 (i1.1 == 5)).bind fun t48_34 =>
                      some (t48_34, true)))
                    (cond (i1.1 == 3)
                      ((impl_Net_arrive t9 i1.2 (i1.1 == 2)).bind fun t76_35 =>
                      some (t76_35, true))
                      ((impl_Net_link t9 i1.2 (i1.1 == 5)).bind fun t48_35 =>
                      some (t48_35, true)))))))
            (cond (i1.1 == 4)
              (cond (i1.1 == 4)
                ((impl_in i1.2 0 (w64 ((p0.2.1.length : Int) - 1))).bind fun t38_18 =>
                cond (!t38_18)
                  (some (t9, false))
                  (cond (i1.1 == 1)
                    ((impl_Net_speak t9 i1.2).bind fun t53_18 =>
                    some (t53_18, true))
                    (cond (i1.1 == 6)
                      ((at? p0.1 i1.2).bind fun x64_18 =>
                      (impl_Tick x64_18).bind fun t66_18 =>
                      (ix t9.1.length i1.2).bind fun j67_18 =>
                      (t9.1[j67_18]?).bind fun x_18 =>
                      some ((t9.1.set j67_18 t66_18, t9.2.1, t9.2.2), true))
                      (cond (i1.1 == 2)
                        (cond (i1.1 == 2)
                          ((impl_Net_arrive t9 i1.2 (i1.1 == 2)).bind fun t76_36 =>
                          some (t76_36, true))
                          ((impl_Net_link t9 i1.2 (i1.1 == 5)).bind fun t48_36 =>
                          some (t48_36, true)))
                        (cond (i1.1 == 3)
                          ((impl_Net_arrive t9 i1.2 (i1.1 == 2)).bind fun t76_37 =>
                          some (t76_37, true))
                          ((impl_Net_link t9 i1.2 (i1.1 == 5)).bind fun t48_37 =>
                          some (t48_37, true)))))))
                ((impl_in i1.2 0 (w64 (0 - 1))).bind fun t38_19 =>
                cond (!t38_19)
                  (some (t9, false))
                  (cond (i1.1 == 1)
                    ((impl_Net_speak t9 i1.2).bind fun t53_19 =>
                    some (t53_19, true))
                    (cond (i1.1 == 6)
                      ((at? p0.1 i1.2).bind fun x64_19 =>
                      (impl_Tick x64_19).bind fun t66_19 =>
                      (ix t9.1.length i1.2).bind fun j67_19 =>
                      (t9.1[j67_19]?).bind fun x_19 =>
                      some ((t9.1.set j67_19 t66_19, t9.2.1, t9.2.2), true))
                      (cond (i1.1 == 2)
                        (cond (i1.1 == 2)
                          ((impl_Net_arrive t9 i1.2 (i1.1 == 2)).bind fun t76_38 =>
                          some (t76_38, true))
                          ((impl_Net_link t9 i1.2 (i1.1 == 5)).bind fun t48_38 =>
                          some (t48_38, true)))
                        (cond (i1.1 == 3)
                          ((impl_Net_arrive t9 i1.2 (i1.1 == 2)).bind fun t76_39 =>
                          some (t76_39, true))
                          ((impl_Net_link t9 i1.2 (i1.1 == 5)).bind fun t48_39 =>
                          some (t48_39, true))))))))
              (cond (i1.1 == 5)
                ((impl_in i1.2 0 (w64 ((p0.2.1.length : Int) - 1))).bind fun t38_20 =>
                cond (!t38_20)
                  (some (t9, false))
                  (cond (i1.1 == 1)
                    ((impl_Net_speak t9 i1.2).bind fun t53_20 =>
                    some (t53_20, true))
                    (cond (i1.1 == 6)
                      ((at? p0.1 i1.2).bind fun x64_20 =>
                      (impl_Tick x64_20).bind fun t66_20 =>
                      (ix t9.1.length i1.2).bind fun j67_20 =>
                      (t9.1[j67_20]?).bind fun x_20 =>
                      some ((t9.1.set j67_20 t66_20, t9.2.1, t9.2.2), true))
                      (cond (i1.1 == 2)
                        (cond (i1.1 == 2)
                          ((impl_Net_arrive t9 i1.2 (i1.1 == 2)).bind fun t76_40 =>
                          some (t76_40, true))
                          ((impl_Net_link t9 i1.2 (i1.1 == 5)).bind fun t48_40 =>
                          some (t48_40, true)))
                        (cond (i1.1 == 3)
                          ((impl_Net_arrive t9 i1.2 (i1.1 == 2)).bind fun t76_41 =>
                          some (t76_41, true))
                          ((impl_Net_link t9 i1.2 (i1.1 == 5)).bind fun t48_41 =>
                          some (t48_41, true)))))))
                ((impl_in i1.2 0 (w64 (0 - 1))).bind fun t38_21 =>
                cond (!t38_21)
                  (some (t9, false))
                  (cond (i1.1 == 1)
                    ((impl_Net_speak t9 i1.2).bind fun t53_21 =>
                    some (t53_21, true))
                    (cond (i1.1 == 6)
                      ((at? p0.1 i1.2).bind fun x64_21 =>
                      (impl_Tick x64_21).bind fun t66_21 =>
                      (ix t9.1.length i1.2).bind fun j67_21 =>
                      (t9.1[j67_21]?).bind fun x_21 =>
                      some ((t9.1.set j67_21 t66_21, t9.2.1, t9.2.2), true))
                      (cond (i1.1 == 2)
                        (cond (i1.1 == 2)
                          ((impl_Net_arrive t9 i1.2 (i1.1 == 2)).bind fun t76_42 =>
                          some (t76_42, true))
                          ((impl_Net_link t9 i1.2 (i1.1 == 5)).bind fun t48_42 =>
                          some (t48_42, true)))
                        (cond (i1.1 == 3)
                          ((impl_Net_arrive t9 i1.2 (i1.1 == 2)).bind fun t76_43 =>
                          some (t76_43, true))
                          ((impl_Net_link t9 i1.2 (i1.1 == 5)).bind fun t48_43 =>
                          some (t48_43, true)))))))))))))
noncomputable def F_impl_Step : Fn := ⟨[.val true cNet false, .val true cEvent false], [.val true cNet true, .val false (.one .bool) true], fun a => impl_Step a.1 a.2⟩
def a_impl_Step : List (Nat × LoopAnn) := []
theorem e_impl_Step : fnDen ⟨tis, fns_98⟩ a_impl_Step Try.f32 (codeOf Try.f32) [.val true cNet false, .val true cEvent false] [.val true cNet true, .val false (.one .bool) true] = fun a => impl_Step a.1 a.2 := by kernel_rfl
theorem m_impl_Step : Meets Try.prog 32 F_impl_Step := by
  have h := meets_of (ann := a_impl_Step) (ps := [.val true cNet false, .val true cEvent false]) (rs := [.val true cNet true, .val false (.one .bool) true]) g_98 mixed Try.func32 (by kernel_rfl) (by kernel_rfl : Try.f32.body = some (codeOf Try.f32))
  rw [e_impl_Step] at h
  exact h
noncomputable def fns_32 : List (FuncId × Fn) := (32, F_impl_Step) :: fns_98
theorem g_32 : Good Try.prog ⟨tis, fns_32⟩ := g_98.cons m_impl_Step
noncomputable def impl_UpLinks_l0 (n0 : Net) (t8 : Int) (out3 : List Int) : Option ((Int × List Int) ⊕ (List Int)) :=
  cond (decide (t8 < (n0.2.1.length : Int)))
    ((impl_LinkUp n0 t8).bind fun t13 =>
    cond t13
      ((app out3 [t8]).bind fun zs17 =>
      some (.inl (w64 (t8 + 1), zs17)))
      (some (.inl (w64 (t8 + 1), out3))))
    (some (.inr out3))
noncomputable def impl_UpLinks (n0 : Net) : Option (List Int) :=
  (loop (fun z => impl_UpLinks_l0 n0 z.1 z.2) (0, [])).bind fun d =>
  some d
noncomputable def F_impl_UpLinks : Fn := ⟨[.val true cNet false], [.val false (.one (.sl (.one (.int .i64)))) true], fun a => impl_UpLinks a⟩
def a_impl_UpLinks : List (Nat × LoopAnn) := [(0, ⟨⟨[(3, false, [.own 1000000000]), (8, false, [.dat (.int .i64)])], [(1000000000, .root (.one (.int .i64)) true)]⟩,
    ⟨[(3, false, [.own 1000000300])], [(1000000300, .root (.one (.int .i64)) true)]⟩, none⟩)]
theorem e_impl_UpLinks : fnDen ⟨tis, fns_32⟩ a_impl_UpLinks Try.f101 (codeOf Try.f101) [.val true cNet false] [.val false (.one (.sl (.one (.int .i64)))) true] = fun a => impl_UpLinks a := by kernel_rfl
theorem m_impl_UpLinks : Meets Try.prog 101 F_impl_UpLinks := by
  have h := meets_of (ann := a_impl_UpLinks) (ps := [.val true cNet false]) (rs := [.val false (.one (.sl (.one (.int .i64)))) true]) g_32 mixed Try.func101 (by kernel_rfl) (by kernel_rfl : Try.f101.body = some (codeOf Try.f101))
  rw [e_impl_UpLinks] at h
  exact h
noncomputable def fns_101 : List (FuncId × Fn) := (101, F_impl_UpLinks) :: fns_32
theorem g_101 : Good Try.prog ⟨tis, fns_101⟩ := g_32.cons m_impl_UpLinks
noncomputable def impl_Joined_l2 (p0 : Net) (a2 : List Int) (t8_1 : Bool) (t32 : Int) (l_1 : List Bool) : Option ((Bool × Int × List Bool) ⊕ (Bool × List Bool)) :=
  cond (decide (t32 < (a2.length : Int)))
    ((at? a2 t32).bind fun x34 =>
    (impl_in x34 0 (w64 ((p0.2.1.length : Int) - 1))).bind fun t41 =>
    cond (!t41)
      (some (.inl (t8_1, w64 (t32 + 1), l_1)))
      ((at? p0.2.1 x34).bind fun x46 =>
      (impl_in x46.1 0 (w64 ((l_1.length : Int) - 1))).bind fun t53 =>
      (cond t53
        ((impl_in x46.2.2.1 0 (w64 ((l_1.length : Int) - 1))).bind fun t60 =>
        some t60)
        (some false)).bind fun t61 =>
      (cond t61
        ((ix l_1.length x46.1).bind fun j66 =>
        (l_1[j66]?).bind fun x67 =>
        (ix l_1.length x46.2.2.1).bind fun j71 =>
        (l_1[j71]?).bind fun x72 =>
        some (!(x67 == x72)))
        (some false)).bind fun t74 =>
      cond t74
        ((ix l_1.length x46.1).bind fun j81 =>
        (l_1[j81]?).bind fun x_1 =>
        (ix (l_1.set j81 true).length x46.2.2.1).bind fun j82 =>
        ((l_1.set j81 true)[j82]?).bind fun x_2 =>
        some (.inl (true, w64 (t32 + 1), (l_1.set j81 true).set j82 true)))
        (some (.inl (t8_1, w64 (t32 + 1), l_1)))))
    (some (.inr (t8_1, l_1)))
noncomputable def impl_Joined_l0 (p0 : Net) (a2 : List Int) (t8 : Bool) (l : List Bool) : Option ((Bool × List Bool) ⊕ (List Bool)) :=
  cond t8
    ((loop (fun z => impl_Joined_l2 p0 a2 z.1 z.2.1 z.2.2) (false, 0, l)).bind fun d =>
    some (.inl d))
    (some (.inr l))
noncomputable def impl_Joined_l4 (d_1 : List Bool) (t86 : Int) (t12 : List Int) : Option ((Int × List Int) ⊕ (List Int)) :=
  cond (decide (t86 < (d_1.length : Int)))
    ((ix d_1.length t86).bind fun j89 =>
    (d_1[j89]?).bind fun x90 =>
    cond x90
      ((app t12 [t86]).bind fun zs95 =>
      some (.inl (w64 (t86 + 1), zs95)))
      (some (.inl (w64 (t86 + 1), t12))))
    (some (.inr t12))
noncomputable def impl_Joined (p0 : Net) (i1 : Int) (a2 : List Int) : Option (List Int) :=
  (impl_in i1 0 (w64 ((p0.1.length : Int) - 1))).bind fun t20 =>
  cond (!t20)
    (some [])
    ((mkLen (p0.1.length : Int)).bind fun n =>
    (ix (List.replicate n (false : Bool)).length i1).bind fun j28 =>
    ((List.replicate n (false : Bool))[j28]?).bind fun x =>
    (loop (fun z => impl_Joined_l0 p0 a2 z.1 z.2) (true, (List.replicate n (false : Bool)).set j28 true)).bind fun d_1 =>
    (loop (fun z => impl_Joined_l4 d_1 z.1 z.2) (0, [])).bind fun d_2 =>
    some d_2)
noncomputable def F_impl_Joined : Fn := ⟨[.val true cNet false, .val false (.one (.int .i64)) false, .val false (.one (.sl (.one (.int .i64)))) false], [.val false (.one (.sl (.one (.int .i64)))) true], fun a => impl_Joined a.1 a.2.1 a.2.2⟩
def a_impl_Joined : List (Nat × LoopAnn) := [(0, ⟨⟨[(8, false, [.dat .bool]), (55, false, [.undef]), (56, false, [.undef]), (57, false, [.undef]), (58, false, [.undef]), (59, false, [.undef]), (60, false, [.undef]), (63, false, [.undef]), (64, false, [.undef]), (65, false, [.undef]), (66, false, [.undef]), (67, false, [.undef]), (68, false, [.undef]), (69, false, [.undef]), (70, false, [.undef]), (71, false, [.undef]), (72, false, [.undef]), (73, false, [.undef])], [(790528, .keep (.one .bool) true)]⟩,
    ⟨[], [(790528, .keep (.one .bool) true)]⟩, none⟩),
  (2, ⟨⟨[(8, false, [.dat .bool]), (32, false, [.dat (.int .i64)]), (55, false, [.undef]), (56, false, [.undef]), (57, false, [.undef]), (58, false, [.undef]), (59, false, [.undef]), (60, false, [.undef]), (63, false, [.undef]), (64, false, [.undef]), (65, false, [.undef]), (66, false, [.undef]), (67, false, [.undef]), (68, false, [.undef]), (69, false, [.undef]), (70, false, [.undef]), (71, false, [.undef]), (72, false, [.undef]), (73, false, [.undef])], [(790528, .keep (.one .bool) true)]⟩,
    ⟨[(8, false, [.dat .bool]), (55, false, [.undef]), (56, false, [.undef]), (57, false, [.undef]), (58, false, [.undef]), (59, false, [.undef]), (60, false, [.undef]), (63, false, [.undef]), (64, false, [.undef]), (65, false, [.undef]), (66, false, [.undef]), (67, false, [.undef]), (68, false, [.undef]), (69, false, [.undef]), (70, false, [.undef]), (71, false, [.undef]), (72, false, [.undef]), (73, false, [.undef])], [(790528, .keep (.one .bool) true)]⟩, none⟩),
  (4, ⟨⟨[(12, false, [.own 1000004000]), (86, false, [.dat (.int .i64)])], [(1000004000, .root (.one (.int .i64)) true)]⟩,
    ⟨[(12, false, [.own 1000004300])], [(1000004300, .root (.one (.int .i64)) true)]⟩, none⟩)]
theorem e_impl_Joined : fnDen ⟨tis, fns_101⟩ a_impl_Joined Try.f171 (codeOf Try.f171) [.val true cNet false, .val false (.one (.int .i64)) false, .val false (.one (.sl (.one (.int .i64)))) false] [.val false (.one (.sl (.one (.int .i64)))) true] = fun a => impl_Joined a.1 a.2.1 a.2.2 := by kernel_rfl
theorem m_impl_Joined : Meets Try.prog 171 F_impl_Joined := by
  have h := meets_of (ann := a_impl_Joined) (ps := [.val true cNet false, .val false (.one (.int .i64)) false, .val false (.one (.sl (.one (.int .i64)))) false]) (rs := [.val false (.one (.sl (.one (.int .i64)))) true]) g_101 mixed Try.func171 (by kernel_rfl) (by kernel_rfl : Try.f171.body = some (codeOf Try.f171))
  rw [e_impl_Joined] at h
  exact h
noncomputable def fns_171 : List (FuncId × Fn) := (171, F_impl_Joined) :: fns_101
theorem g_171 : Good Try.prog ⟨tis, fns_171⟩ := g_101.cons m_impl_Joined
noncomputable def impl_rootAt_l0 (n0 : Net) (t12 : List Int) (root5 : Int) (t14 : Int) : Option ((Int × Int) ⊕ Int) :=
  cond (decide (t14 < (t12.length : Int)))
    ((ix t12.length t14).bind fun j16 =>
    (t12[j16]?).bind fun x17 =>
    (cond (decide (root5 < 0))
      (some true)
      ((at? n0.1 x17).bind fun x24 =>
      (at? n0.1 root5).bind fun x30 =>
      some (decide (x24.1 < x30.1)))).bind fun t34 =>
    cond t34
      (some (.inl (x17, w64 (t14 + 1))))
      (some (.inl (root5, w64 (t14 + 1)))))
    (some (.inr root5))
noncomputable def impl_rootAt (n0 : Net) (b1 : Int) : Option Int :=
  (impl_UpLinks n0).bind fun t11 =>
  (impl_Joined n0 b1 t11).bind fun t12 =>
  (loop (fun z => impl_rootAt_l0 n0 t12 z.1 z.2) ((-1), 0)).bind fun d =>
  some d
noncomputable def F_impl_rootAt : Fn := ⟨[.val true cNet false, .val false (.one (.int .i64)) false], [.val false (.one (.int .i64)) true], fun a => impl_rootAt a.1 a.2⟩
def a_impl_rootAt : List (Nat × LoopAnn) := [(0, ⟨⟨[(5, false, [.dat (.int .i64)]), (14, false, [.dat (.int .i64)]), (21, false, [.undef]), (22, false, [.undef]), (23, false, [.undef]), (24, false, [.undef]), (25, false, [.undef]), (26, false, [.undef]), (27, false, [.undef]), (28, false, [.undef]), (29, false, [.undef]), (30, false, [.undef]), (31, false, [.undef]), (32, false, [.undef]), (33, false, [.undef])], []⟩,
    ⟨[(5, false, [.dat (.int .i64)])], []⟩, none⟩)]
theorem e_impl_rootAt : fnDen ⟨tis, fns_171⟩ a_impl_rootAt Try.f99 (codeOf Try.f99) [.val true cNet false, .val false (.one (.int .i64)) false] [.val false (.one (.int .i64)) true] = fun a => impl_rootAt a.1 a.2 := by kernel_rfl
theorem m_impl_rootAt : Meets Try.prog 99 F_impl_rootAt := by
  have h := meets_of (ann := a_impl_rootAt) (ps := [.val true cNet false, .val false (.one (.int .i64)) false]) (rs := [.val false (.one (.int .i64)) true]) g_171 mixed Try.func99 (by kernel_rfl) (by kernel_rfl : Try.f99.body = some (codeOf Try.f99))
  rw [e_impl_rootAt] at h
  exact h
noncomputable def fns_99 : List (FuncId × Fn) := (99, F_impl_rootAt) :: fns_171
theorem g_99 : Good Try.prog ⟨tis, fns_99⟩ := g_171.cons m_impl_rootAt
noncomputable def impl_DistTrue_1 (from0 : Int) (to1 : Int) (port2 : Int) (a3 : List Int) (a4 : Net) : Option ((List Int) × Net) :=
  (ix a3.length from0).bind fun j11 =>
  (a3[j11]?).bind fun x12 =>
  cond (decide (x12 < 0))
    (some (a3, a4))
    ((ix a3.length from0).bind fun j16 =>
    (a3[j16]?).bind fun x17 =>
    (at? a4.1 to1).bind fun x21 =>
    (at? x21.2.2.1 port2).bind fun x25 =>
    (ix a3.length to1).bind fun j31 =>
    (a3[j31]?).bind fun x32 =>
    (cond (decide (x32 < 0))
      (some true)
      ((ix a3.length to1).bind fun j38 =>
      (a3[j38]?).bind fun x39 =>
      some (decide ((w64 (x17 + x25.2.1)) < x39)))).bind fun t41 =>
    cond t41
      ((ix a3.length to1).bind fun j45 =>
      (a3[j45]?).bind fun x =>
      some (a3.set j45 (w64 (x17 + x25.2.1)), a4))
      (some (a3, a4)))
noncomputable def F_impl_DistTrue_1 : Fn := ⟨[.val false (.one (.int .i64)) false, .val false (.one (.int .i64)) false, .val false (.one (.int .i64)) false, .ptr (.one (.sl (.one (.int .i64)))) true, .ptr cNet false], [], fun a => impl_DistTrue_1 a.1 a.2.1 a.2.2.1 a.2.2.2.1 a.2.2.2.2⟩
def a_impl_DistTrue_1 : List (Nat × LoopAnn) := []
theorem e_impl_DistTrue_1 : fnDen ⟨tis, fns_99⟩ a_impl_DistTrue_1 Try.f100 (codeOf Try.f100) [.val false (.one (.int .i64)) false, .val false (.one (.int .i64)) false, .val false (.one (.int .i64)) false, .ptr (.one (.sl (.one (.int .i64)))) true, .ptr cNet false] [] = fun a => impl_DistTrue_1 a.1 a.2.1 a.2.2.1 a.2.2.2.1 a.2.2.2.2 := by kernel_rfl
theorem m_impl_DistTrue_1 : Meets Try.prog 100 F_impl_DistTrue_1 := by
  have h := meets_of (ann := a_impl_DistTrue_1) (ps := [.val false (.one (.int .i64)) false, .val false (.one (.int .i64)) false, .val false (.one (.int .i64)) false, .ptr (.one (.sl (.one (.int .i64)))) true, .ptr cNet false]) (rs := []) g_99 mixed Try.func100 (by kernel_rfl) (by kernel_rfl : Try.f100.body = some (codeOf Try.f100))
  rw [e_impl_DistTrue_1] at h
  exact h
noncomputable def fns_100 : List (FuncId × Fn) := (100, F_impl_DistTrue_1) :: fns_99
theorem g_100 : Good Try.prog ⟨tis, fns_100⟩ := g_99.cons m_impl_DistTrue_1
noncomputable def impl_DistTrue_l0 (n : Nat) (t23 : Int) (l : List Int) : Option ((Int × List Int) ⊕ (List Int)) :=
  cond (decide (t23 < ((List.replicate n (0 : Int)).length : Int)))
    ((ix l.length t23).bind fun j28 =>
    (l[j28]?).bind fun x =>
    some (.inl (w64 (t23 + 1), l.set j28 (-1))))
    (some (.inr l))
noncomputable def impl_DistTrue_l4 (t40 : List Int) (t42 : Int) (b0_2 : List Bridge) (b1_1 : List Link) (b2_1 : List Say) (b0_3 : List Int) : Option ((Int × List Bridge × List Link × List Say × List Int) ⊕ (List Bridge × List Link × List Say × List Int)) :=
  cond (decide (t42 < (t40.length : Int)))
    ((ix t40.length t42).bind fun j44 =>
    (t40[j44]?).bind fun x45 =>
    (at? b1_1 x45).bind fun x49 =>
    (impl_DistTrue_1 x49.1 x49.2.2.1 x49.2.2.2 b0_3 (b0_2, b1_1, b2_1)).bind fun t58 =>
    (impl_DistTrue_1 x49.2.2.1 x49.1 x49.2.1 t58.1 t58.2).bind fun t66 =>
    some (.inl (w64 (t42 + 1), t66.2.1, t66.2.2.1, t66.2.2.2, t66.1)))
    (some (.inr (b0_2, b1_1, b2_1, b0_3)))
noncomputable def impl_DistTrue_l2 (p0 : Net) (t37 : Int) (b0 : List Bridge) (b1 : List Link) (b2 : List Say) (b0_1 : List Int) : Option ((Int × List Bridge × List Link × List Say × List Int) ⊕ (List Bridge × List Link × List Say × List Int)) :=
  cond (decide (t37 < (p0.1.length : Int)))
    ((impl_UpLinks (b0, b1, b2)).bind fun t40 =>
    (loop (fun z => impl_DistTrue_l4 t40 z.1 z.2.1 z.2.2.1 z.2.2.2.1 z.2.2.2.2) (0, b0, b1, b2, b0_1)).bind fun d_1 =>
    some (.inl (w64 (t37 + 1), d_1.1, d_1.2.1, d_1.2.2.1, d_1.2.2.2)))
    (some (.inr (b0, b1, b2, b0_1)))
noncomputable def impl_DistTrue (p0 : Net) (i1 : Int) : Option Int :=
  (impl_rootAt p0 i1).bind fun t14 =>
  cond (decide (t14 < 0))
    (some (-1))
    ((mkLen (p0.1.length : Int)).bind fun n =>
    (loop (fun z => impl_DistTrue_l0 n z.1 z.2) (0, List.replicate n (0 : Int))).bind fun d =>
    (ix d.length t14).bind fun j32 =>
    (d[j32]?).bind fun x_1 =>
    (loop (fun z => impl_DistTrue_l2 p0 z.1 z.2.1 z.2.2.1 z.2.2.2.1 z.2.2.2.2) (0, p0.1, p0.2.1, p0.2.2, d.set j32 0)).bind fun d_2 =>
    (ix d_2.2.2.2.length i1).bind fun j71 =>
    (d_2.2.2.2[j71]?).bind fun x72 =>
    some x72)
noncomputable def F_impl_DistTrue : Fn := ⟨[.val true cNet false, .val false (.one (.int .i64)) false], [.val false (.one (.int .i64)) true], fun a => impl_DistTrue a.1 a.2⟩
def a_impl_DistTrue : List (Nat × LoopAnn) := [(0, ⟨⟨[(23, false, [.dat (.int .i64)])], [(1052672, .keep (.one (.int .i64)) true)]⟩,
    ⟨[], [(1052672, .keep (.one (.int .i64)) true)]⟩, none⟩),
  (2, ⟨⟨[(37, false, [.dat (.int .i64)])], [(1024, .box [.dat (.sl cBridge), .dat (.sl cLink), .dat (.sl cSay)]), (1053696, .box [.own 1000002000]), (1000002000, .root (.one (.int .i64)) true)]⟩,
    ⟨[], [(1024, .box [.dat (.sl cBridge), .dat (.sl cLink), .dat (.sl cSay)]), (1053696, .box [.own 1000002300]), (1000002300, .root (.one (.int .i64)) true)]⟩, none⟩),
  (4, ⟨⟨[(42, false, [.dat (.int .i64)])], [(1024, .box [.dat (.sl cBridge), .dat (.sl cLink), .dat (.sl cSay)]), (1053696, .box [.own 1000004000]), (1000004000, .root (.one (.int .i64)) true)]⟩,
    ⟨[], [(1024, .box [.dat (.sl cBridge), .dat (.sl cLink), .dat (.sl cSay)]), (1053696, .box [.own 1000004300]), (1000004300, .root (.one (.int .i64)) true)]⟩, none⟩)]
theorem e_impl_DistTrue : fnDen ⟨tis, fns_100⟩ a_impl_DistTrue Try.f33 (codeOf Try.f33) [.val true cNet false, .val false (.one (.int .i64)) false] [.val false (.one (.int .i64)) true] = fun a => impl_DistTrue a.1 a.2 := by kernel_rfl
theorem m_impl_DistTrue : Meets Try.prog 33 F_impl_DistTrue := by
  have h := meets_of (ann := a_impl_DistTrue) (ps := [.val true cNet false, .val false (.one (.int .i64)) false]) (rs := [.val false (.one (.int .i64)) true]) g_100 mixed Try.func33 (by kernel_rfl) (by kernel_rfl : Try.f33.body = some (codeOf Try.f33))
  rw [e_impl_DistTrue] at h
  exact h
noncomputable def fns_33 : List (FuncId × Fn) := (33, F_impl_DistTrue) :: fns_100
theorem g_33 : Good Try.prog ⟨tis, fns_33⟩ := g_100.cons m_impl_DistTrue
noncomputable def laws_has_l0 (l0 : List Int) (n1 : Int) (i5 : Int) : Option (Int ⊕ (Unit ⊕ Bool)) :=
  cond (decide (i5 < (l0.length : Int)))
    ((at? l0 i5).bind fun x14 =>
    cond (x14 == n1) (some (.inr (.inr true))) (some (.inl (w64 (i5 + 1)))))
    (some (.inr (.inl ())))
noncomputable def laws_has (l0 : List Int) (n1 : Int) : Option Bool :=
  (loop (fun z => laws_has_l0 l0 n1 z) 0).bind (Sum.elim (fun d =>
    some false) (fun r => some r))
noncomputable def F_laws_has : Fn := ⟨[.val false (.one (.sl (.one (.int .i64)))) false, .val false (.one (.int .i64)) false], [.val false (.one .bool) true], fun a => laws_has a.1 a.2⟩
def a_laws_has : List (Nat × LoopAnn) := [(0, ⟨⟨[(5, false, [.dat (.int .i64)])], []⟩,
    ⟨[], []⟩, some ⟨[(4, false, [.dat .bool])], []⟩⟩)]
theorem e_laws_has : fnDen ⟨tis, fns_33⟩ a_laws_has Try.f34 (codeOf Try.f34) [.val false (.one (.sl (.one (.int .i64)))) false, .val false (.one (.int .i64)) false] [.val false (.one .bool) true] = fun a => laws_has a.1 a.2 := by kernel_rfl
theorem m_laws_has : Meets Try.prog 34 F_laws_has := by
  have h := meets_of (ann := a_laws_has) (ps := [.val false (.one (.sl (.one (.int .i64)))) false, .val false (.one (.int .i64)) false]) (rs := [.val false (.one .bool) true]) g_33 mixed Try.func34 (by kernel_rfl) (by kernel_rfl : Try.f34.body = some (codeOf Try.f34))
  rw [e_laws_has] at h
  exact h
noncomputable def fns_34 : List (FuncId × Fn) := (34, F_laws_has) :: fns_33
theorem g_34 : Good Try.prog ⟨tis, fns_34⟩ := g_33.cons m_laws_has
noncomputable def impl_OneSpeaks_l0 (n0 : Net) (t9 : List Int) (t11 : Int) : Option (Int ⊕ (Unit ⊕ Bool)) :=
  cond (decide (t11 < (t9.length : Int)))
    ((ix t9.length t11).bind fun j13 =>
    (t9[j13]?).bind fun x14 =>
    (at? n0.2.1 x14).bind fun x18 =>
    (at? n0.1 x18.1).bind fun x24 =>
    (at? n0.1 x18.1).bind fun x31 =>
    (impl_RoleOf x24.1 x31.2.2.1 x18.2.1).bind fun t36 =>
    (at? n0.1 x18.2.2.1).bind fun x41 =>
    (at? n0.1 x18.2.2.1).bind fun x48 =>
    (impl_RoleOf x41.1 x48.2.2.1 x18.2.2.2).bind fun t53 =>
    cond ((t36 == 2) == (t53 == 2)) (some (.inr (.inr false))) (some (.inl (w64 (t11 + 1)))))
    (some (.inr (.inl ())))
noncomputable def impl_OneSpeaks (n0 : Net) : Option Bool :=
  (impl_UpLinks n0).bind fun t9 =>
  (loop (fun z => impl_OneSpeaks_l0 n0 t9 z) 0).bind (Sum.elim (fun d =>
    some true) (fun r => some r))
noncomputable def F_impl_OneSpeaks : Fn := ⟨[.val true cNet false], [.val false (.one .bool) true], fun a => impl_OneSpeaks a⟩
def a_impl_OneSpeaks : List (Nat × LoopAnn) := [(0, ⟨⟨[(11, false, [.dat (.int .i64)])], []⟩,
    ⟨[], []⟩, some ⟨[(2, false, [.dat .bool])], []⟩⟩)]
theorem e_impl_OneSpeaks : fnDen ⟨tis, fns_34⟩ a_impl_OneSpeaks Try.f44 (codeOf Try.f44) [.val true cNet false] [.val false (.one .bool) true] = fun a => impl_OneSpeaks a := by kernel_rfl
theorem m_impl_OneSpeaks : Meets Try.prog 44 F_impl_OneSpeaks := by
  have h := meets_of (ann := a_impl_OneSpeaks) (ps := [.val true cNet false]) (rs := [.val false (.one .bool) true]) g_34 mixed Try.func44 (by kernel_rfl) (by kernel_rfl : Try.f44.body = some (codeOf Try.f44))
  rw [e_impl_OneSpeaks] at h
  exact h
noncomputable def fns_44 : List (FuncId × Fn) := (44, F_impl_OneSpeaks) :: fns_34
theorem g_44 : Good Try.prog ⟨tis, fns_44⟩ := g_34.cons m_impl_OneSpeaks
noncomputable def impl_SameOid_l0 (a0 : List Int) (b1 : List Int) (t13 : Int) : Option (Int ⊕ (Unit ⊕ Bool)) :=
  cond (decide (t13 < (a0.length : Int)))
    ((at? a0 t13).bind fun x18 =>
    (at? b1 t13).bind fun x22 =>
    cond (x18 != x22) (some (.inr (.inr false))) (some (.inl (w64 (t13 + 1)))))
    (some (.inr (.inl ())))
noncomputable def impl_SameOid (a0 : List Int) (b1 : List Int) : Option Bool :=
  cond ((a0.length : Int) != (b1.length : Int))
    (some false)
    ((loop (fun z => impl_SameOid_l0 a0 b1 z) 0).bind (Sum.elim (fun d =>
      some true) (fun r => some r)))
noncomputable def F_impl_SameOid : Fn := ⟨[.val false (.one (.sl (.one (.int .i64)))) false, .val false (.one (.sl (.one (.int .i64)))) false], [.val false (.one .bool) true], fun a => impl_SameOid a.1 a.2⟩
def a_impl_SameOid : List (Nat × LoopAnn) := [(0, ⟨⟨[(13, false, [.dat (.int .i64)])], []⟩,
    ⟨[], []⟩, some ⟨[(4, false, [.dat .bool])], []⟩⟩)]
theorem e_impl_SameOid : fnDen ⟨tis, fns_44⟩ a_impl_SameOid Try.f52 (codeOf Try.f52) [.val false (.one (.sl (.one (.int .i64)))) false, .val false (.one (.sl (.one (.int .i64)))) false] [.val false (.one .bool) true] = fun a => impl_SameOid a.1 a.2 := by kernel_rfl
theorem m_impl_SameOid : Meets Try.prog 52 F_impl_SameOid := by
  have h := meets_of (ann := a_impl_SameOid) (ps := [.val false (.one (.sl (.one (.int .i64)))) false, .val false (.one (.sl (.one (.int .i64)))) false]) (rs := [.val false (.one .bool) true]) g_44 mixed Try.func52 (by kernel_rfl) (by kernel_rfl : Try.f52.body = some (codeOf Try.f52))
  rw [e_impl_SameOid] at h
  exact h
noncomputable def fns_52 : List (FuncId × Fn) := (52, F_impl_SameOid) :: fns_44
theorem g_52 : Good Try.prog ⟨tis, fns_52⟩ := g_44.cons m_impl_SameOid
noncomputable def impl_hasInt_l0 (l0 : List Int) (n1 : Int) (t9 : Int) : Option (Int ⊕ (Unit ⊕ Bool)) :=
  cond (decide (t9 < (l0.length : Int)))
    ((at? l0 t9).bind fun x11 =>
    cond (x11 == n1) (some (.inr (.inr true))) (some (.inl (w64 (t9 + 1)))))
    (some (.inr (.inl ())))
noncomputable def impl_hasInt (l0 : List Int) (n1 : Int) : Option Bool :=
  (loop (fun z => impl_hasInt_l0 l0 n1 z) 0).bind (Sum.elim (fun d =>
    some false) (fun r => some r))
noncomputable def F_impl_hasInt : Fn := ⟨[.val false (.one (.sl (.one (.int .i64)))) false, .val false (.one (.int .i64)) false], [.val false (.one .bool) true], fun a => impl_hasInt a.1 a.2⟩
def a_impl_hasInt : List (Nat × LoopAnn) := [(0, ⟨⟨[(9, false, [.dat (.int .i64)])], []⟩,
    ⟨[], []⟩, some ⟨[(4, false, [.dat .bool])], []⟩⟩)]
theorem e_impl_hasInt : fnDen ⟨tis, fns_52⟩ a_impl_hasInt Try.f215 (codeOf Try.f215) [.val false (.one (.sl (.one (.int .i64)))) false, .val false (.one (.int .i64)) false] [.val false (.one .bool) true] = fun a => impl_hasInt a.1 a.2 := by kernel_rfl
theorem m_impl_hasInt : Meets Try.prog 215 F_impl_hasInt := by
  have h := meets_of (ann := a_impl_hasInt) (ps := [.val false (.one (.sl (.one (.int .i64)))) false, .val false (.one (.int .i64)) false]) (rs := [.val false (.one .bool) true]) g_52 mixed Try.func215 (by kernel_rfl) (by kernel_rfl : Try.f215.body = some (codeOf Try.f215))
  rw [e_impl_hasInt] at h
  exact h
noncomputable def fns_215 : List (FuncId × Fn) := (215, F_impl_hasInt) :: fns_52
theorem g_215 : Good Try.prog ⟨tis, fns_215⟩ := g_52.cons m_impl_hasInt
noncomputable def impl_Loops_l0 (n0 : Net) (l1 : List Int) (t10 : Int) : Option (Int ⊕ (Unit ⊕ Bool)) :=
  cond (decide (t10 < (l1.length : Int)))
    ((at? l1 t10).bind fun x13 =>
    (impl_in x13 0 (w64 ((n0.2.1.length : Int) - 1))).bind fun t20 =>
    cond (!t20)
      (some (.inl (w64 (t10 + 1))))
      ((cut l1 0 t10).bind fun t24 =>
      (impl_copyInts t24).bind fun t25 =>
      (cut l1 (w64 (t10 + 1)) (l1.length : Int)).bind fun t29 =>
      (app t25 t29).bind fun zs30 =>
      (at? n0.2.1 x13).bind fun x35 =>
      (impl_Joined n0 x35.1 zs30).bind fun t39 =>
      (at? n0.2.1 x13).bind fun x43 =>
      (impl_hasInt t39 x43.2.2.1).bind fun t46 =>
      cond t46 (some (.inr (.inr true))) (some (.inl (w64 (t10 + 1))))))
    (some (.inr (.inl ())))
noncomputable def impl_Loops (n0 : Net) (l1 : List Int) : Option Bool :=
  (loop (fun z => impl_Loops_l0 n0 l1 z) 0).bind (Sum.elim (fun d =>
    some false) (fun r => some r))
noncomputable def F_impl_Loops : Fn := ⟨[.val true cNet false, .val false (.one (.sl (.one (.int .i64)))) false], [.val false (.one .bool) true], fun a => impl_Loops a.1 a.2⟩
def a_impl_Loops : List (Nat × LoopAnn) := [(0, ⟨⟨[(10, false, [.dat (.int .i64)])], []⟩,
    ⟨[], []⟩, some ⟨[(4, false, [.dat .bool])], []⟩⟩)]
theorem e_impl_Loops : fnDen ⟨tis, fns_215⟩ a_impl_Loops Try.f172 (codeOf Try.f172) [.val true cNet false, .val false (.one (.sl (.one (.int .i64)))) false] [.val false (.one .bool) true] = fun a => impl_Loops a.1 a.2 := by kernel_rfl
theorem m_impl_Loops : Meets Try.prog 172 F_impl_Loops := by
  have h := meets_of (ann := a_impl_Loops) (ps := [.val true cNet false, .val false (.one (.sl (.one (.int .i64)))) false]) (rs := [.val false (.one .bool) true]) g_215 mixed Try.func172 (by kernel_rfl) (by kernel_rfl : Try.f172.body = some (codeOf Try.f172))
  rw [e_impl_Loops] at h
  exact h
noncomputable def fns_172 : List (FuncId × Fn) := (172, F_impl_Loops) :: fns_215
theorem g_172 : Good Try.prog ⟨tis, fns_172⟩ := g_215.cons m_impl_Loops
noncomputable def impl_OneTree_l0 (n0 : Net) (t7 : List Int) (t9 : List Int) (t13 : Int) : Option (Int ⊕ (Unit ⊕ Bool)) :=
  cond (decide (t13 < (n0.1.length : Int)))
    ((impl_Joined n0 t13 t7).bind fun t19 =>
    (impl_Joined n0 t13 t9).bind fun t23 =>
    (impl_SameOid t19 t23).bind fun t24 =>
    cond (!t24) (some (.inr (.inr false))) (some (.inl (w64 (t13 + 1)))))
    (some (.inr (.inl ())))
noncomputable def impl_OneTree (n0 : Net) : Option Bool :=
  (impl_Live n0).bind fun t7 =>
  (impl_UpLinks n0).bind fun t9 =>
  (loop (fun z => impl_OneTree_l0 n0 t7 t9 z) 0).bind (Sum.elim (fun d =>
    (impl_Loops n0 t7).bind fun t29 =>
    some (!t29)) (fun r => some r))
noncomputable def F_impl_OneTree : Fn := ⟨[.val true cNet false], [.val false (.one .bool) true], fun a => impl_OneTree a⟩
def a_impl_OneTree : List (Nat × LoopAnn) := [(0, ⟨⟨[(13, false, [.dat (.int .i64)])], []⟩,
    ⟨[], []⟩, some ⟨[(2, false, [.dat .bool])], []⟩⟩)]
theorem e_impl_OneTree : fnDen ⟨tis, fns_172⟩ a_impl_OneTree Try.f102 (codeOf Try.f102) [.val true cNet false] [.val false (.one .bool) true] = fun a => impl_OneTree a := by kernel_rfl
theorem m_impl_OneTree : Meets Try.prog 102 F_impl_OneTree := by
  have h := meets_of (ann := a_impl_OneTree) (ps := [.val true cNet false]) (rs := [.val false (.one .bool) true]) g_172 mixed Try.func102 (by kernel_rfl) (by kernel_rfl : Try.f102.body = some (codeOf Try.f102))
  rw [e_impl_OneTree] at h
  exact h
noncomputable def fns_102 : List (FuncId × Fn) := (102, F_impl_OneTree) :: fns_172
theorem g_102 : Good Try.prog ⟨tis, fns_102⟩ := g_172.cons m_impl_OneTree
noncomputable def impl_RootTrue (n0 : Net) (b1 : Int) : Option Int :=
  (impl_rootAt n0 b1).bind fun t8 =>
  cond (decide (t8 < 0))
    (some 0)
    ((at? n0.1 t8).bind fun x14 =>
    some x14.1)
noncomputable def F_impl_RootTrue : Fn := ⟨[.val true cNet false, .val false (.one (.int .i64)) false], [.val false (.one (.int .i64)) true], fun a => impl_RootTrue a.1 a.2⟩
def a_impl_RootTrue : List (Nat × LoopAnn) := []
theorem e_impl_RootTrue : fnDen ⟨tis, fns_102⟩ a_impl_RootTrue Try.f216 (codeOf Try.f216) [.val true cNet false, .val false (.one (.int .i64)) false] [.val false (.one (.int .i64)) true] = fun a => impl_RootTrue a.1 a.2 := by kernel_rfl
theorem m_impl_RootTrue : Meets Try.prog 216 F_impl_RootTrue := by
  have h := meets_of (ann := a_impl_RootTrue) (ps := [.val true cNet false, .val false (.one (.int .i64)) false]) (rs := [.val false (.one (.int .i64)) true]) g_102 mixed Try.func216 (by kernel_rfl) (by kernel_rfl : Try.f216.body = some (codeOf Try.f216))
  rw [e_impl_RootTrue] at h
  exact h
noncomputable def fns_216 : List (FuncId × Fn) := (216, F_impl_RootTrue) :: fns_102
theorem g_216 : Good Try.prog ⟨tis, fns_216⟩ := g_102.cons m_impl_RootTrue
noncomputable def impl_Knows (n0 : Net) (b1 : Int) : Option Bool :=
  (impl_in b1 0 (w64 ((n0.1.length : Int) - 1))).bind fun t12 =>
  cond (!t12)
    (some false)
    ((at? n0.1 b1).bind fun x18 =>
    (at? n0.1 b1).bind fun x24 =>
    (impl_BestVec x18.1 x24.2.2.1).bind fun t27 =>
    (impl_RootTrue n0 b1).bind fun t34 =>
    (cond (t27.1.1 == t34)
      ((impl_DistTrue n0 b1).bind fun t41 =>
      some (t27.1.2.1 == t41))
      (some false)).bind fun t43 =>
    some t43)
noncomputable def F_impl_Knows : Fn := ⟨[.val true cNet false, .val false (.one (.int .i64)) false], [.val false (.one .bool) true], fun a => impl_Knows a.1 a.2⟩
def a_impl_Knows : List (Nat × LoopAnn) := []
theorem e_impl_Knows : fnDen ⟨tis, fns_216⟩ a_impl_Knows Try.f173 (codeOf Try.f173) [.val true cNet false, .val false (.one (.int .i64)) false] [.val false (.one .bool) true] = fun a => impl_Knows a.1 a.2 := by kernel_rfl
theorem m_impl_Knows : Meets Try.prog 173 F_impl_Knows := by
  have h := meets_of (ann := a_impl_Knows) (ps := [.val true cNet false, .val false (.one (.int .i64)) false]) (rs := [.val false (.one .bool) true]) g_216 mixed Try.func173 (by kernel_rfl) (by kernel_rfl : Try.f173.body = some (codeOf Try.f173))
  rw [e_impl_Knows] at h
  exact h
noncomputable def fns_173 : List (FuncId × Fn) := (173, F_impl_Knows) :: fns_216
theorem g_173 : Good Try.prog ⟨tis, fns_173⟩ := g_216.cons m_impl_Knows
noncomputable def impl_AllKnow_l0 (n0 : Net) (t7 : Int) : Option (Int ⊕ (Unit ⊕ Bool)) :=
  cond (decide (t7 < (n0.1.length : Int)))
    ((impl_Knows n0 t7).bind fun t12 =>
    cond (!t12) (some (.inr (.inr false))) (some (.inl (w64 (t7 + 1)))))
    (some (.inr (.inl ())))
noncomputable def impl_AllKnow (n0 : Net) : Option Bool :=
  (loop (fun z => impl_AllKnow_l0 n0 z) 0).bind (Sum.elim (fun d =>
    some true) (fun r => some r))
noncomputable def F_impl_AllKnow : Fn := ⟨[.val true cNet false], [.val false (.one .bool) true], fun a => impl_AllKnow a⟩
def a_impl_AllKnow : List (Nat × LoopAnn) := [(0, ⟨⟨[(7, false, [.dat (.int .i64)])], []⟩,
    ⟨[], []⟩, some ⟨[(2, false, [.dat .bool])], []⟩⟩)]
theorem e_impl_AllKnow : fnDen ⟨tis, fns_173⟩ a_impl_AllKnow Try.f103 (codeOf Try.f103) [.val true cNet false] [.val false (.one .bool) true] = fun a => impl_AllKnow a := by kernel_rfl
theorem m_impl_AllKnow : Meets Try.prog 103 F_impl_AllKnow := by
  have h := meets_of (ann := a_impl_AllKnow) (ps := [.val true cNet false]) (rs := [.val false (.one .bool) true]) g_173 mixed Try.func103 (by kernel_rfl) (by kernel_rfl : Try.f103.body = some (codeOf Try.f103))
  rw [e_impl_AllKnow] at h
  exact h
noncomputable def fns_103 : List (FuncId × Fn) := (103, F_impl_AllKnow) :: fns_173
theorem g_103 : Good Try.prog ⟨tis, fns_103⟩ := g_173.cons m_impl_AllKnow
noncomputable def impl_Safe (n0 : Net) : Option Int :=
  (impl_NetOk n0).bind fun t5 =>
  cond (!t5)
    (some 1)
    ((impl_Agreed n0).bind fun t9 =>
    cond (!t9)
      (some 0)
      ((impl_OneTree n0).bind fun t13 =>
      cond (!t13)
        (some 2)
        ((impl_AllKnow n0).bind fun t17 =>
        cond (!t17)
          (some 3)
          ((impl_OneSpeaks n0).bind fun t21 =>
          cond (!t21) (some 4) (some 0)))))
noncomputable def F_impl_Safe : Fn := ⟨[.val true cNet false], [.val false (.one (.int .i64)) true], fun a => impl_Safe a⟩
def a_impl_Safe : List (Nat × LoopAnn) := []
theorem e_impl_Safe : fnDen ⟨tis, fns_103⟩ a_impl_Safe Try.f35 (codeOf Try.f35) [.val true cNet false] [.val false (.one (.int .i64)) true] = fun a => impl_Safe a := by kernel_rfl
theorem m_impl_Safe : Meets Try.prog 35 F_impl_Safe := by
  have h := meets_of (ann := a_impl_Safe) (ps := [.val true cNet false]) (rs := [.val false (.one (.int .i64)) true]) g_103 mixed Try.func35 (by kernel_rfl) (by kernel_rfl : Try.f35.body = some (codeOf Try.f35))
  rw [e_impl_Safe] at h
  exact h
noncomputable def fns_35 : List (FuncId × Fn) := (35, F_impl_Safe) :: fns_103
theorem g_35 : Good Try.prog ⟨tis, fns_35⟩ := g_103.cons m_impl_Safe
noncomputable def laws_FnRings_l0 (t14 : Int) (t23 : Net) (x50 : Int) (t59 : Net) (t10 : Int) : Option (Int ⊕ (Unit ⊕ Bool)) :=
  cond (decide (t10 < (w64 (3 + (t14.tmod 4)))))
    ((impl_DistTrue t23 t10).bind fun t67 =>
    (cond (decide (t67 > (w64 ((w64 (3 + (t14.tmod 4))).tdiv 2))))
      (some true)
      ((impl_Live t59).bind fun t73 =>
      (laws_has t73 t10).bind fun t75 =>
      some (!(t75 == (t10 != x50))))).bind fun t80 =>
    cond t80 (some (.inr (.inr false))) (some (.inl (w64 (t10 + 1)))))
    (some (.inr (.inl ())))
noncomputable def laws_FnRings (p0 : List Int) : Option Bool :=
  (laws_big p0).bind fun t12 =>
  cond t12
    (some true)
    ((laws_at p0 2).bind fun t14 =>
    (laws_at p0 3).bind fun t19 =>
    (rem t19 (w64 (3 + (t14.tmod 4)))).bind fun t21 =>
    (laws_ring (w64 (3 + (t14.tmod 4))) t21).bind fun t22 =>
    (impl_Rounds t22 20).bind fun t23 =>
    (impl_Live t23).bind fun t25 =>
    (cond ((t23.1.length : Int) != (w64 (3 + (t14.tmod 4))))
      (some true)
      ((impl_Agreed t23).bind fun t33 =>
      some (!t33))).bind fun t35 =>
    (cond t35
      (some true)
      (some ((t25.length : Int) != (w64 ((w64 (3 + (t14.tmod 4))) - 1))))).bind fun t42 =>
    cond t42
      (some false)
      ((laws_at p0 4).bind fun t45 =>
      (rem t45 (w64 ((w64 (3 + (t14.tmod 4))) - 1))).bind fun t48 =>
      (ix t25.length t48).bind fun j49 =>
      (t25[j49]?).bind fun x50 =>
      (impl_Step t23 (4, x50)).bind fun t55 =>
      (impl_Rounds t55.1 20).bind fun t59 =>
      (loop (fun z => laws_FnRings_l0 t14 t23 x50 t59 z) 0).bind (Sum.elim (fun d =>
        (cond t55.2
          ((impl_Agreed t59).bind fun t84 =>
          some t84)
          (some false)).bind fun t85 =>
        (cond t85
          ((impl_Safe t59).bind fun t88 =>
          some (t88 == 0))
          (some false)).bind fun t90 =>
        some t90) (fun r => some r))))
noncomputable def F_laws_FnRings : Fn := ⟨[.val false (.one (.sl (.one (.int .u8)))) false], [.val false (.one .bool) true], fun a => laws_FnRings a⟩
def a_laws_FnRings : List (Nat × LoopAnn) := [(0, ⟨⟨[(10, false, [.dat (.int .i64)]), (72, false, [.undef]), (73, false, [.undef]), (74, false, [.undef]), (75, false, [.undef]), (76, false, [.undef]), (77, false, [.undef]), (78, false, [.undef]), (79, false, [.undef])], []⟩,
    ⟨[], []⟩, some ⟨[(2, false, [.dat .bool])], []⟩⟩)]
theorem e_laws_FnRings : fnDen ⟨tis, fns_35⟩ a_laws_FnRings Try.f6 (codeOf Try.f6) [.val false (.one (.sl (.one (.int .u8)))) false] [.val false (.one .bool) true] = fun a => laws_FnRings a := by kernel_rfl
theorem m_laws_FnRings : Meets Try.prog 6 F_laws_FnRings := by
  have h := meets_of (ann := a_laws_FnRings) (ps := [.val false (.one (.sl (.one (.int .u8)))) false]) (rs := [.val false (.one .bool) true]) g_35 mixed Try.func6 (by kernel_rfl) (by kernel_rfl : Try.f6.body = some (codeOf Try.f6))
  rw [e_laws_FnRings] at h
  exact h
noncomputable def fns_6 : List (FuncId × Fn) := (6, F_laws_FnRings) :: fns_35
theorem g_6 : Good Try.prog ⟨tis, fns_6⟩ := g_35.cons m_laws_FnRings
end Go.V.W
