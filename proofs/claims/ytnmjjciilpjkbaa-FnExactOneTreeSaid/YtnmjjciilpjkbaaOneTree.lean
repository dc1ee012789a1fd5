/- The law FnExactOneTree: part of the proof that for every input it returns true. No condition. -/
import Derived.Test.YtnmjjciilpjkbaaV3
import Derived.Test.YtnmjjciilpjkbaaProg
import Derived.Test.YtnmjjciilpjkbaaChecked
import Derived.KernelRfl
namespace Go.V.W
open Go.Proofs
set_option linter.unusedVariables false
@[reducible] def cVec : Cs := .cons (.int .i64) (.cons (.int .i64) (.cons (.int .i64) (.cons (.int .i64) (.one (.int .i64)))))
@[reducible] def cPt : Cs := .cons .bool (.cons (.int .i64) (.cons .bool (.cons (.int .i64) (.cons (.int .i64) (.cons (.int .i64) (.cons (.int .i64) (.one (.int .i64))))))))
@[reducible] def cFent : Cs := .cons (.int .i64) (.cons (.int .i64) (.cons (.int .i64) (.cons (.int .i64) (.one .bool))))
@[reducible] def cVrow : Cs := .cons (.int .i64) (.cons (.int .i64) (.one (.int .i64)))
@[reducible] def cVtab : Cs := .cons (.sl cVrow) (.one (.sl (.one (.int .i64))))
@[reducible] def cBridge : Cs := .cons (.int .i64) (.cons .str (.cons (.sl cPt) (.cons (.sl cFent) (.cons (.sl cVrow) (.cons (.sl (.one (.int .i64))) (.cons (.int .i64) (.cons (.int .i64) (.cons (.int .i64) (.cons (.int .i64) (.one (.int .i64)))))))))))
@[reducible] def cLink : Cs := .cons (.int .i64) (.cons (.int .i64) (.cons (.int .i64) (.one (.int .i64))))
@[reducible] def cSay : Cs := .cons (.int .i64) (.cons .bool (.cons (.int .i64) (.cons (.int .i64) (.cons (.int .i64) (.cons (.int .i64) (.one (.int .i64)))))))
@[reducible] def cNet : Cs := .cons (.sl cBridge) (.cons (.sl cLink) (.one (.sl cSay)))
abbrev Vec : Type := Int × Int × Int × Int × Int
abbrev Pt : Type := Bool × Int × Bool × Int × Int × Int × Int × Int
abbrev Fent : Type := Int × Int × Int × Int × Bool
abbrev Vrow : Type := Int × Int × Int
abbrev Vtab : Type := List Vrow × List Int
abbrev Bridge : Type := Int × List UInt8 × List Pt × List Fent × List Vrow × List Int × Int × Int × Int × Int × Int
abbrev Link : Type := Int × Int × Int × Int
abbrev Say : Type := Int × Bool × Int × Int × Int × Int × Int
abbrev Net : Type := List Bridge × List Link × List Say
def tis : List (Nat × TInfo) := [(2, ⟨false, .one (.int .i64), [], 0⟩),
  (3, ⟨false, .one (.int .i64), [], 0⟩),
  (4, ⟨false, .one .bool, [], 0⟩),
  (5, ⟨false, .one (.int .u8), [], 0⟩),
  (6, ⟨false, .one (.int .u8), [], 0⟩),
  (9, ⟨false, .one .str, [], 0⟩),
  (10, ⟨false, .one .str, [], 0⟩),
  (11, ⟨false, .one .str, [], 0⟩),
  (12, ⟨false, .one (.int .u64), [], 0⟩),
  (21, ⟨false, .one (.int .i32), [], 0⟩),
  (22, ⟨false, .one (.sl cPt), [], 172⟩),
  (23, ⟨false, .one (.sl cFent), [], 174⟩),
  (24, ⟨false, .one (.sl cVrow), [], 237⟩),
  (25, ⟨false, .one (.sl (.one (.int .i64))), [], 3⟩),
  (26, ⟨true, cVtab, [(24, 0), (25, 1)], 0⟩),
  (27, ⟨true, cVtab, [(24, 0), (25, 1)], 0⟩),
  (28, ⟨true, cBridge, [(3, 0), (9, 1), (22, 2), (23, 3), (27, 4), (3, 6), (3, 7), (3, 8), (3, 9), (3, 10)], 0⟩),
  (29, ⟨true, cBridge, [(3, 0), (9, 1), (22, 2), (23, 3), (27, 4), (3, 6), (3, 7), (3, 8), (3, 9), (3, 10)], 0⟩),
  (32, ⟨false, .one (.sl cPt), [], 125⟩),
  (33, ⟨false, .one (.sl cFent), [], 127⟩),
  (34, ⟨false, .one (.sl cVrow), [], 167⟩),
  (35, ⟨true, cVtab, [(34, 0), (25, 1)], 0⟩),
  (36, ⟨true, cVtab, [(34, 0), (25, 1)], 0⟩),
  (37, ⟨true, cBridge, [(3, 0), (9, 1), (32, 2), (33, 3), (36, 4), (3, 6), (3, 7), (3, 8), (3, 9), (3, 10)], 0⟩),
  (38, ⟨true, cBridge, [(3, 0), (9, 1), (32, 2), (33, 3), (36, 4), (3, 6), (3, 7), (3, 8), (3, 9), (3, 10)], 0⟩),
  (44, ⟨false, .one (.sl (.one (.int .u8))), [], 5⟩),
  (50, ⟨true, .cons (.int .i64) (.cons (.int .i64) (.cons .str (.one (.sl (.one (.int .i64)))))), [(3, 0), (3, 1), (9, 2), (25, 3)], 0⟩),
  (51, ⟨true, .cons (.int .i64) (.cons (.int .i64) (.cons .str (.one (.sl (.one (.int .i64)))))), [(3, 0), (3, 1), (9, 2), (25, 3)], 0⟩),
  (52, ⟨true, .cons (.sl (.one (.int .i64))) (.cons (.int .i64) (.cons (.int .i64) (.cons .str (.one (.sl (.one (.int .i64))))))), [(25, 0), (51, 1)], 0⟩),
  (53, ⟨true, .cons (.sl (.one (.int .i64))) (.cons (.int .i64) (.cons (.int .i64) (.cons .str (.one (.sl (.one (.int .i64))))))), [(25, 0), (51, 1)], 0⟩),
  (55, ⟨false, .one (.sl cBridge), [], 29⟩),
  (56, ⟨false, .one (.sl cLink), [], 206⟩),
  (57, ⟨false, .one (.sl cSay), [], 211⟩),
  (58, ⟨true, cNet, [(55, 0), (56, 1), (57, 2)], 0⟩),
  (59, ⟨true, cNet, [(55, 0), (56, 1), (57, 2)], 0⟩),
  (62, ⟨false, .one (.sl cBridge), [], 38⟩),
  (63, ⟨false, .one (.sl cLink), [], 204⟩),
  (64, ⟨false, .one (.sl cSay), [], 208⟩),
  (65, ⟨true, cNet, [(62, 0), (63, 1), (64, 2)], 0⟩),
  (66, ⟨true, cNet, [(62, 0), (63, 1), (64, 2)], 0⟩),
  (75, ⟨false, .one (.sl (.cons (.sl (.one (.int .i64))) (.cons (.int .i64) (.cons (.int .i64) (.cons .str (.one (.sl (.one (.int .i64))))))))), [], 53⟩),
  (78, ⟨false, .one (.sl (.cons (.int .i64) (.cons (.sl (.one (.int .u8))) (.cons (.int .i64) (.cons (.int .i64) (.cons (.int .i64) (.cons (.int .i64) (.cons (.int .i64) (.cons (.sl (.cons (.sl (.one (.int .i64))) (.cons (.int .i64) (.cons (.int .i64) (.cons .str (.one (.sl (.one (.int .i64))))))))) (.cons (.int .i64) (.cons .str (.cons (.sl cPt) (.cons (.sl cFent) (.cons (.sl cVrow) (.cons (.sl (.one (.int .i64))) (.cons (.int .i64) (.cons (.int .i64) (.cons (.int .i64) (.cons (.int .i64) (.cons (.int .i64) (.cons (.int .i64) (.one (.int .i64))))))))))))))))))))))), [], 227⟩),
  (79, ⟨true, .cons (.int .i64) (.cons .str (.cons (.sl cPt) (.cons (.sl cFent) (.cons (.sl cVrow) (.cons (.sl (.one (.int .i64))) (.cons (.int .i64) (.cons (.int .i64) (.cons (.int .i64) (.cons (.int .i64) (.cons (.int .i64) (.cons .str (.cons (.sl (.cons (.int .i64) (.cons (.sl (.one (.int .u8))) (.cons (.int .i64) (.cons (.int .i64) (.cons (.int .i64) (.cons (.int .i64) (.cons (.int .i64) (.cons (.sl (.cons (.sl (.one (.int .i64))) (.cons (.int .i64) (.cons (.int .i64) (.cons .str (.one (.sl (.one (.int .i64))))))))) (.cons (.int .i64) (.cons .str (.cons (.sl cPt) (.cons (.sl cFent) (.cons (.sl cVrow) (.cons (.sl (.one (.int .i64))) (.cons (.int .i64) (.cons (.int .i64) (.cons (.int .i64) (.cons (.int .i64) (.cons (.int .i64) (.cons (.int .i64) (.one (.int .i64))))))))))))))))))))))) (.cons (.int .i64) (.one (.int .i64))))))))))))))), [(29, 0), (9, 11), (78, 12), (3, 13), (3, 14)], 0⟩),
  (80, ⟨true, .cons (.int .i64) (.cons .str (.cons (.sl cPt) (.cons (.sl cFent) (.cons (.sl cVrow) (.cons (.sl (.one (.int .i64))) (.cons (.int .i64) (.cons (.int .i64) (.cons (.int .i64) (.cons (.int .i64) (.cons (.int .i64) (.cons .str (.cons (.sl (.cons (.int .i64) (.cons (.sl (.one (.int .u8))) (.cons (.int .i64) (.cons (.int .i64) (.cons (.int .i64) (.cons (.int .i64) (.cons (.int .i64) (.cons (.sl (.cons (.sl (.one (.int .i64))) (.cons (.int .i64) (.cons (.int .i64) (.cons .str (.one (.sl (.one (.int .i64))))))))) (.cons (.int .i64) (.cons .str (.cons (.sl cPt) (.cons (.sl cFent) (.cons (.sl cVrow) (.cons (.sl (.one (.int .i64))) (.cons (.int .i64) (.cons (.int .i64) (.cons (.int .i64) (.cons (.int .i64) (.cons (.int .i64) (.cons (.int .i64) (.one (.int .i64))))))))))))))))))))))) (.cons (.int .i64) (.one (.int .i64))))))))))))))), [(29, 0), (9, 11), (78, 12), (3, 13), (3, 14)], 0⟩),
  (83, ⟨false, .one (.sl (.cons (.int .i64) (.cons (.sl (.one (.int .u8))) (.cons (.int .i64) (.cons (.int .i64) (.cons (.int .i64) (.cons (.int .i64) (.cons (.int .i64) (.cons (.sl (.cons (.sl (.one (.int .i64))) (.cons (.int .i64) (.cons (.int .i64) (.cons .str (.one (.sl (.one (.int .i64))))))))) (.cons (.int .i64) (.cons .str (.cons (.sl cPt) (.cons (.sl cFent) (.cons (.sl cVrow) (.cons (.sl (.one (.int .i64))) (.cons (.int .i64) (.cons (.int .i64) (.cons (.int .i64) (.cons (.int .i64) (.cons (.int .i64) (.cons (.int .i64) (.one (.int .i64))))))))))))))))))))))), [], 150⟩),
  (84, ⟨true, .cons (.int .i64) (.cons .str (.cons (.sl cPt) (.cons (.sl cFent) (.cons (.sl cVrow) (.cons (.sl (.one (.int .i64))) (.cons (.int .i64) (.cons (.int .i64) (.cons (.int .i64) (.cons (.int .i64) (.cons (.int .i64) (.cons .str (.cons (.sl (.cons (.int .i64) (.cons (.sl (.one (.int .u8))) (.cons (.int .i64) (.cons (.int .i64) (.cons (.int .i64) (.cons (.int .i64) (.cons (.int .i64) (.cons (.sl (.cons (.sl (.one (.int .i64))) (.cons (.int .i64) (.cons (.int .i64) (.cons .str (.one (.sl (.one (.int .i64))))))))) (.cons (.int .i64) (.cons .str (.cons (.sl cPt) (.cons (.sl cFent) (.cons (.sl cVrow) (.cons (.sl (.one (.int .i64))) (.cons (.int .i64) (.cons (.int .i64) (.cons (.int .i64) (.cons (.int .i64) (.cons (.int .i64) (.cons (.int .i64) (.one (.int .i64))))))))))))))))))))))) (.cons (.int .i64) (.one (.int .i64))))))))))))))), [(38, 0), (9, 11), (83, 12), (3, 13), (3, 14)], 0⟩),
  (85, ⟨true, .cons (.int .i64) (.cons .str (.cons (.sl cPt) (.cons (.sl cFent) (.cons (.sl cVrow) (.cons (.sl (.one (.int .i64))) (.cons (.int .i64) (.cons (.int .i64) (.cons (.int .i64) (.cons (.int .i64) (.cons (.int .i64) (.cons .str (.cons (.sl (.cons (.int .i64) (.cons (.sl (.one (.int .u8))) (.cons (.int .i64) (.cons (.int .i64) (.cons (.int .i64) (.cons (.int .i64) (.cons (.int .i64) (.cons (.sl (.cons (.sl (.one (.int .i64))) (.cons (.int .i64) (.cons (.int .i64) (.cons .str (.one (.sl (.one (.int .i64))))))))) (.cons (.int .i64) (.cons .str (.cons (.sl cPt) (.cons (.sl cFent) (.cons (.sl cVrow) (.cons (.sl (.one (.int .i64))) (.cons (.int .i64) (.cons (.int .i64) (.cons (.int .i64) (.cons (.int .i64) (.cons (.int .i64) (.cons (.int .i64) (.one (.int .i64))))))))))))))))))))))) (.cons (.int .i64) (.one (.int .i64))))))))))))))), [(38, 0), (9, 11), (83, 12), (3, 13), (3, 14)], 0⟩),
  (96, ⟨true, .cons (.int .i64) (.cons (.int .i64) (.cons .str (.one (.sl (.one (.int .i64)))))), [(3, 0), (3, 1), (9, 2), (25, 3)], 0⟩),
  (97, ⟨true, .cons (.sl (.one (.int .i64))) (.cons (.int .i64) (.cons (.int .i64) (.cons .str (.one (.sl (.one (.int .i64))))))), [(25, 0), (96, 1)], 0⟩),
  (98, ⟨true, .cons (.sl (.one (.int .i64))) (.cons (.int .i64) (.cons (.int .i64) (.cons .str (.one (.sl (.one (.int .i64))))))), [(25, 0), (96, 1)], 0⟩),
  (122, ⟨true, cVec, [(3, 0), (3, 1), (3, 2), (3, 3), (3, 4)], 0⟩),
  (123, ⟨true, cVec, [(3, 0), (3, 1), (3, 2), (3, 3), (3, 4)], 0⟩),
  (124, ⟨true, cPt, [(4, 0), (3, 1), (4, 2), (123, 3)], 0⟩),
  (125, ⟨true, cPt, [(4, 0), (3, 1), (4, 2), (123, 3)], 0⟩),
  (126, ⟨true, cFent, [(3, 0), (3, 1), (3, 2), (3, 3), (4, 4)], 0⟩),
  (127, ⟨true, cFent, [(3, 0), (3, 1), (3, 2), (3, 3), (4, 4)], 0⟩),
  (147, ⟨true, .cons (.int .i64) (.cons (.int .i64) (.cons (.int .i64) (.cons (.int .i64) (.one (.sl (.cons (.sl (.one (.int .i64))) (.cons (.int .i64) (.cons (.int .i64) (.cons .str (.one (.sl (.one (.int .i64))))))))))))), [(3, 0), (3, 1), (3, 2), (3, 3), (75, 4)], 0⟩),
  (148, ⟨true, .cons (.int .i64) (.cons (.int .i64) (.cons (.int .i64) (.cons (.int .i64) (.one (.sl (.cons (.sl (.one (.int .i64))) (.cons (.int .i64) (.cons (.int .i64) (.cons .str (.one (.sl (.one (.int .i64))))))))))))), [(3, 0), (3, 1), (3, 2), (3, 3), (75, 4)], 0⟩),
  (149, ⟨true, .cons (.int .i64) (.cons (.sl (.one (.int .u8))) (.cons (.int .i64) (.cons (.int .i64) (.cons (.int .i64) (.cons (.int .i64) (.cons (.int .i64) (.cons (.sl (.cons (.sl (.one (.int .i64))) (.cons (.int .i64) (.cons (.int .i64) (.cons .str (.one (.sl (.one (.int .i64))))))))) (.cons (.int .i64) (.cons .str (.cons (.sl cPt) (.cons (.sl cFent) (.cons (.sl cVrow) (.cons (.sl (.one (.int .i64))) (.cons (.int .i64) (.cons (.int .i64) (.cons (.int .i64) (.cons (.int .i64) (.cons (.int .i64) (.cons (.int .i64) (.one (.int .i64))))))))))))))))))))), [(3, 0), (44, 1), (3, 2), (148, 3), (38, 8), (3, 19), (3, 20)], 0⟩),
  (150, ⟨true, .cons (.int .i64) (.cons (.sl (.one (.int .u8))) (.cons (.int .i64) (.cons (.int .i64) (.cons (.int .i64) (.cons (.int .i64) (.cons (.int .i64) (.cons (.sl (.cons (.sl (.one (.int .i64))) (.cons (.int .i64) (.cons (.int .i64) (.cons .str (.one (.sl (.one (.int .i64))))))))) (.cons (.int .i64) (.cons .str (.cons (.sl cPt) (.cons (.sl cFent) (.cons (.sl cVrow) (.cons (.sl (.one (.int .i64))) (.cons (.int .i64) (.cons (.int .i64) (.cons (.int .i64) (.cons (.int .i64) (.cons (.int .i64) (.cons (.int .i64) (.one (.int .i64))))))))))))))))))))), [(3, 0), (44, 1), (3, 2), (148, 3), (38, 8), (3, 19), (3, 20)], 0⟩),
  (166, ⟨true, cVrow, [(3, 0), (3, 1), (3, 2)], 0⟩),
  (167, ⟨true, cVrow, [(3, 0), (3, 1), (3, 2)], 0⟩),
  (170, ⟨true, cVec, [(3, 0), (3, 1), (3, 2), (3, 3), (3, 4)], 0⟩),
  (171, ⟨true, cPt, [(4, 0), (3, 1), (4, 2), (170, 3)], 0⟩),
  (172, ⟨true, cPt, [(4, 0), (3, 1), (4, 2), (170, 3)], 0⟩),
  (174, ⟨true, cFent, [(3, 0), (3, 1), (3, 2), (3, 3), (4, 4)], 0⟩),
  (180, ⟨true, .cons (.sl (.one (.int .u8))) (.cons (.int .i64) (.one (.int .i64))), [(44, 0), (3, 1), (3, 2)], 0⟩),
  (181, ⟨true, .cons (.sl (.one (.int .u8))) (.cons (.int .i64) (.one (.int .i64))), [(44, 0), (3, 1), (3, 2)], 0⟩),
  (184, ⟨false, .one (.sl (.one .str)), [], 9⟩),
  (203, ⟨true, cLink, [(3, 0), (3, 1), (3, 2), (3, 3)], 0⟩),
  (204, ⟨true, cLink, [(3, 0), (3, 1), (3, 2), (3, 3)], 0⟩),
  (206, ⟨true, cLink, [(3, 0), (3, 1), (3, 2), (3, 3)], 0⟩),
  (207, ⟨true, cSay, [(3, 0), (4, 1), (123, 2)], 0⟩),
  (208, ⟨true, cSay, [(3, 0), (4, 1), (123, 2)], 0⟩),
  (210, ⟨true, cSay, [(3, 0), (4, 1), (170, 2)], 0⟩),
  (211, ⟨true, cSay, [(3, 0), (4, 1), (170, 2)], 0⟩),
  (217, ⟨false, .one (.sl (.one .bool)), [], 4⟩),
  (223, ⟨false, .one (.sl (.cons (.sl (.one (.int .i64))) (.cons (.int .i64) (.cons (.int .i64) (.cons .str (.one (.sl (.one (.int .i64))))))))), [], 98⟩),
  (224, ⟨true, .cons (.int .i64) (.cons (.int .i64) (.cons (.int .i64) (.cons (.int .i64) (.one (.sl (.cons (.sl (.one (.int .i64))) (.cons (.int .i64) (.cons (.int .i64) (.cons .str (.one (.sl (.one (.int .i64))))))))))))), [(3, 0), (3, 1), (3, 2), (3, 3), (223, 4)], 0⟩),
  (225, ⟨true, .cons (.int .i64) (.cons (.int .i64) (.cons (.int .i64) (.cons (.int .i64) (.one (.sl (.cons (.sl (.one (.int .i64))) (.cons (.int .i64) (.cons (.int .i64) (.cons .str (.one (.sl (.one (.int .i64))))))))))))), [(3, 0), (3, 1), (3, 2), (3, 3), (223, 4)], 0⟩),
  (226, ⟨true, .cons (.int .i64) (.cons (.sl (.one (.int .u8))) (.cons (.int .i64) (.cons (.int .i64) (.cons (.int .i64) (.cons (.int .i64) (.cons (.int .i64) (.cons (.sl (.cons (.sl (.one (.int .i64))) (.cons (.int .i64) (.cons (.int .i64) (.cons .str (.one (.sl (.one (.int .i64))))))))) (.cons (.int .i64) (.cons .str (.cons (.sl cPt) (.cons (.sl cFent) (.cons (.sl cVrow) (.cons (.sl (.one (.int .i64))) (.cons (.int .i64) (.cons (.int .i64) (.cons (.int .i64) (.cons (.int .i64) (.cons (.int .i64) (.cons (.int .i64) (.one (.int .i64))))))))))))))))))))), [(3, 0), (44, 1), (3, 2), (225, 3), (29, 8), (3, 19), (3, 20)], 0⟩),
  (227, ⟨true, .cons (.int .i64) (.cons (.sl (.one (.int .u8))) (.cons (.int .i64) (.cons (.int .i64) (.cons (.int .i64) (.cons (.int .i64) (.cons (.int .i64) (.cons (.sl (.cons (.sl (.one (.int .i64))) (.cons (.int .i64) (.cons (.int .i64) (.cons .str (.one (.sl (.one (.int .i64))))))))) (.cons (.int .i64) (.cons .str (.cons (.sl cPt) (.cons (.sl cFent) (.cons (.sl cVrow) (.cons (.sl (.one (.int .i64))) (.cons (.int .i64) (.cons (.int .i64) (.cons (.int .i64) (.cons (.int .i64) (.cons (.int .i64) (.cons (.int .i64) (.one (.int .i64))))))))))))))))))))), [(3, 0), (44, 1), (3, 2), (225, 3), (29, 8), (3, 19), (3, 20)], 0⟩),
  (237, ⟨true, cVrow, [(3, 0), (3, 1), (3, 2)], 0⟩),
  (265, ⟨false, .one (.int .u64), [], 0⟩),
  (288, ⟨false, .one (.int .u32), [], 0⟩),
  (289, ⟨false, .one (.int .u8), [], 0⟩),
  (290, ⟨false, .one (.int .u8), [], 0⟩),
  (293, ⟨false, .one (.int .i32), [], 0⟩),
  (294, ⟨false, .one (.int .i32), [], 0⟩)]
theorem tisT : Tis Try.prog tis := Tis.of_all (by kernel_rfl)
theorem tisE : Eqs Try.prog tis := Eqs.of_all (by kernel_rfl)
theorem tisD : Deep Try.prog tis := Deep.of_all (by kernel_rfl)
theorem mixed : Try.prog.follows .mixedOrders = true := by kernel_rfl
def codeOf (fn : Func) : Code := match fn.body with | some c => c | none => .skip
theorem g_0 : Good Try.prog ⟨tis, []⟩ := ⟨tisT, tisE, fun f F h => by cases h⟩
noncomputable def laws_szPtS (a0 : List Pt) (left1 : Int) : Option Int :=
  let left1_1 := w64 (left1 - (a0.length : Int))
  cond (decide (left1_1 < 0)) (some (-1)) (some left1_1)
noncomputable def F_laws_szPtS : Fn := ⟨[.val false (.one (.sl cPt)) false, .val false (.one (.int .i64)) false], [.val false (.one (.int .i64)) true], fun a => laws_szPtS a.1 a.2⟩
def a_laws_szPtS : List (Nat × LoopAnn) := []
theorem e_laws_szPtS : fnDen ⟨tis, []⟩ a_laws_szPtS Try.f64 (codeOf Try.f64) [.val false (.one (.sl cPt)) false, .val false (.one (.int .i64)) false] [.val false (.one (.int .i64)) true] = fun a => laws_szPtS a.1 a.2 := by kernel_rfl
theorem m_laws_szPtS : Meets Try.prog 64 F_laws_szPtS := by
  have h := meets_of (ann := a_laws_szPtS) (ps := [.val false (.one (.sl cPt)) false, .val false (.one (.int .i64)) false]) (rs := [.val false (.one (.int .i64)) true]) g_0 mixed Try.func64 (by kernel_rfl) (by kernel_rfl : Try.f64.body = some (codeOf Try.f64))
  rw [e_laws_szPtS] at h
  exact h
noncomputable def fns_64 : List (FuncId × Fn) := (64, F_laws_szPtS) :: []
theorem g_64 : Good Try.prog ⟨tis, fns_64⟩ := g_0.cons m_laws_szPtS
noncomputable def laws_szFentS (a0 : List Fent) (left1 : Int) : Option Int :=
  let left1_1 := w64 (left1 - (a0.length : Int))
  cond (decide (left1_1 < 0)) (some (-1)) (some left1_1)
noncomputable def F_laws_szFentS : Fn := ⟨[.val false (.one (.sl cFent)) false, .val false (.one (.int .i64)) false], [.val false (.one (.int .i64)) true], fun a => laws_szFentS a.1 a.2⟩
def a_laws_szFentS : List (Nat × LoopAnn) := []
theorem e_laws_szFentS : fnDen ⟨tis, fns_64⟩ a_laws_szFentS Try.f65 (codeOf Try.f65) [.val false (.one (.sl cFent)) false, .val false (.one (.int .i64)) false] [.val false (.one (.int .i64)) true] = fun a => laws_szFentS a.1 a.2 := by kernel_rfl
theorem m_laws_szFentS : Meets Try.prog 65 F_laws_szFentS := by
  have h := meets_of (ann := a_laws_szFentS) (ps := [.val false (.one (.sl cFent)) false, .val false (.one (.int .i64)) false]) (rs := [.val false (.one (.int .i64)) true]) g_64 mixed Try.func65 (by kernel_rfl) (by kernel_rfl : Try.f65.body = some (codeOf Try.f65))
  rw [e_laws_szFentS] at h
  exact h
noncomputable def fns_65 : List (FuncId × Fn) := (65, F_laws_szFentS) :: fns_64
theorem g_65 : Good Try.prog ⟨tis, fns_65⟩ := g_64.cons m_laws_szFentS
noncomputable def laws_szIntS (a0 : List Int) (left1 : Int) : Option Int :=
  let left1_1 := w64 (left1 - (a0.length : Int))
  cond (decide (left1_1 < 0)) (some (-1)) (some left1_1)
noncomputable def F_laws_szIntS : Fn := ⟨[.val false (.one (.sl (.one (.int .i64)))) false, .val false (.one (.int .i64)) false], [.val false (.one (.int .i64)) true], fun a => laws_szIntS a.1 a.2⟩
def a_laws_szIntS : List (Nat × LoopAnn) := []
theorem e_laws_szIntS : fnDen ⟨tis, fns_65⟩ a_laws_szIntS Try.f129 (codeOf Try.f129) [.val false (.one (.sl (.one (.int .i64)))) false, .val false (.one (.int .i64)) false] [.val false (.one (.int .i64)) true] = fun a => laws_szIntS a.1 a.2 := by kernel_rfl
theorem m_laws_szIntS : Meets Try.prog 129 F_laws_szIntS := by
  have h := meets_of (ann := a_laws_szIntS) (ps := [.val false (.one (.sl (.one (.int .i64)))) false, .val false (.one (.int .i64)) false]) (rs := [.val false (.one (.int .i64)) true]) g_65 mixed Try.func129 (by kernel_rfl) (by kernel_rfl : Try.f129.body = some (codeOf Try.f129))
  rw [e_laws_szIntS] at h
  exact h
noncomputable def fns_129 : List (FuncId × Fn) := (129, F_laws_szIntS) :: fns_65
theorem g_129 : Good Try.prog ⟨tis, fns_129⟩ := g_65.cons m_laws_szIntS
noncomputable def laws_szVrowS (a0 : List Vrow) (left1 : Int) : Option Int :=
  let left1_1 := w64 (left1 - (a0.length : Int))
  cond (decide (left1_1 < 0)) (some (-1)) (some left1_1)
noncomputable def F_laws_szVrowS : Fn := ⟨[.val false (.one (.sl cVrow)) false, .val false (.one (.int .i64)) false], [.val false (.one (.int .i64)) true], fun a => laws_szVrowS a.1 a.2⟩
def a_laws_szVrowS : List (Nat × LoopAnn) := []
theorem e_laws_szVrowS : fnDen ⟨tis, fns_129⟩ a_laws_szVrowS Try.f138 (codeOf Try.f138) [.val false (.one (.sl cVrow)) false, .val false (.one (.int .i64)) false] [.val false (.one (.int .i64)) true] = fun a => laws_szVrowS a.1 a.2 := by kernel_rfl
theorem m_laws_szVrowS : Meets Try.prog 138 F_laws_szVrowS := by
  have h := meets_of (ann := a_laws_szVrowS) (ps := [.val false (.one (.sl cVrow)) false, .val false (.one (.int .i64)) false]) (rs := [.val false (.one (.int .i64)) true]) g_129 mixed Try.func138 (by kernel_rfl) (by kernel_rfl : Try.f138.body = some (codeOf Try.f138))
  rw [e_laws_szVrowS] at h
  exact h
noncomputable def fns_138 : List (FuncId × Fn) := (138, F_laws_szVrowS) :: fns_129
theorem g_138 : Good Try.prog ⟨tis, fns_138⟩ := g_129.cons m_laws_szVrowS
noncomputable def laws_szVtab (a0 : Vtab) (left1 : Int) : Option Int :=
  (laws_szVrowS a0.1 left1).bind fun t8 =>
  cond (decide (t8 < 0))
    (some (-1))
    ((laws_szIntS a0.2 t8).bind fun t14 =>
    cond (decide (t14 < 0)) (some (-1)) (some t14))
noncomputable def F_laws_szVtab : Fn := ⟨[.val true cVtab false, .val false (.one (.int .i64)) false], [.val false (.one (.int .i64)) true], fun a => laws_szVtab a.1 a.2⟩
def a_laws_szVtab : List (Nat × LoopAnn) := []
theorem e_laws_szVtab : fnDen ⟨tis, fns_138⟩ a_laws_szVtab Try.f66 (codeOf Try.f66) [.val true cVtab false, .val false (.one (.int .i64)) false] [.val false (.one (.int .i64)) true] = fun a => laws_szVtab a.1 a.2 := by kernel_rfl
theorem m_laws_szVtab : Meets Try.prog 66 F_laws_szVtab := by
  have h := meets_of (ann := a_laws_szVtab) (ps := [.val true cVtab false, .val false (.one (.int .i64)) false]) (rs := [.val false (.one (.int .i64)) true]) g_138 mixed Try.func66 (by kernel_rfl) (by kernel_rfl : Try.f66.body = some (codeOf Try.f66))
  rw [e_laws_szVtab] at h
  exact h
noncomputable def fns_66 : List (FuncId × Fn) := (66, F_laws_szVtab) :: fns_138
theorem g_66 : Good Try.prog ⟨tis, fns_66⟩ := g_138.cons m_laws_szVtab
noncomputable def laws_szBridge (a0 : Bridge) (left1 : Int) : Option Int :=
  let left1_1 := w64 (left1 - (a0.2.1.length : Int))
  cond (decide (left1_1 < 0))
    (some (-1))
    ((laws_szPtS a0.2.2.1 left1_1).bind fun t15 =>
    cond (decide (t15 < 0))
      (some (-1))
      ((laws_szFentS a0.2.2.2.1 t15).bind fun t21 =>
      cond (decide (t21 < 0))
        (some (-1))
        ((laws_szVtab (a0.2.2.2.2.1, a0.2.2.2.2.2.1) t21).bind fun t27 =>
        cond (decide (t27 < 0)) (some (-1)) (some t27))))
noncomputable def F_laws_szBridge : Fn := ⟨[.val true cBridge false, .val false (.one (.int .i64)) false], [.val false (.one (.int .i64)) true], fun a => laws_szBridge a.1 a.2⟩
def a_laws_szBridge : List (Nat × LoopAnn) := []
theorem e_laws_szBridge : fnDen ⟨tis, fns_66⟩ a_laws_szBridge Try.f12 (codeOf Try.f12) [.val true cBridge false, .val false (.one (.int .i64)) false] [.val false (.one (.int .i64)) true] = fun a => laws_szBridge a.1 a.2 := by kernel_rfl
theorem m_laws_szBridge : Meets Try.prog 12 F_laws_szBridge := by
  have h := meets_of (ann := a_laws_szBridge) (ps := [.val true cBridge false, .val false (.one (.int .i64)) false]) (rs := [.val false (.one (.int .i64)) true]) g_66 mixed Try.func12 (by kernel_rfl) (by kernel_rfl : Try.f12.body = some (codeOf Try.f12))
  rw [e_laws_szBridge] at h
  exact h
noncomputable def fns_12 : List (FuncId × Fn) := (12, F_laws_szBridge) :: fns_66
theorem g_12 : Good Try.prog ⟨tis, fns_12⟩ := g_66.cons m_laws_szBridge
noncomputable def laws_szBridgeS_l0 (a0 : List Bridge) (left1_2 : Int) (i5 : Int) : Option ((Int × Int) ⊕ (Int ⊕ Int)) :=
  cond (decide (i5 < (a0.length : Int)))
    ((at? a0 i5).bind fun x20 =>
    (laws_szBridge x20 left1_2).bind fun t23 =>
    cond (decide (t23 < 0)) (some (.inr (.inr (-1)))) (some (.inl (t23, w64 (i5 + 1)))))
    (some (.inr (.inl left1_2)))
noncomputable def laws_szBridgeS (a0 : List Bridge) (left1 : Int) : Option Int :=
  let left1_1 := w64 (left1 - (a0.length : Int))
  cond (decide (left1_1 < 0))
    (some (-1))
    ((loop (fun z => laws_szBridgeS_l0 a0 z.1 z.2) (left1_1, 0)).bind (Sum.elim (fun d =>
      some d) (fun r => some r)))
noncomputable def F_laws_szBridgeS : Fn := ⟨[.val false (.one (.sl cBridge)) false, .val false (.one (.int .i64)) false], [.val false (.one (.int .i64)) true], fun a => laws_szBridgeS a.1 a.2⟩
def a_laws_szBridgeS : List (Nat × LoopAnn) := [(0, ⟨⟨[(1, false, [.dat (.int .i64)]), (5, false, [.dat (.int .i64)])], []⟩,
    ⟨[(1, false, [.dat (.int .i64)])], []⟩, some ⟨[(4, false, [.dat (.int .i64)])], []⟩⟩)]
theorem e_laws_szBridgeS : fnDen ⟨tis, fns_12⟩ a_laws_szBridgeS Try.f84 (codeOf Try.f84) [.val false (.one (.sl cBridge)) false, .val false (.one (.int .i64)) false] [.val false (.one (.int .i64)) true] = fun a => laws_szBridgeS a.1 a.2 := by kernel_rfl
theorem m_laws_szBridgeS : Meets Try.prog 84 F_laws_szBridgeS := by
  have h := meets_of (ann := a_laws_szBridgeS) (ps := [.val false (.one (.sl cBridge)) false, .val false (.one (.int .i64)) false]) (rs := [.val false (.one (.int .i64)) true]) g_12 mixed Try.func84 (by kernel_rfl) (by kernel_rfl : Try.f84.body = some (codeOf Try.f84))
  rw [e_laws_szBridgeS] at h
  exact h
noncomputable def fns_84 : List (FuncId × Fn) := (84, F_laws_szBridgeS) :: fns_12
theorem g_84 : Good Try.prog ⟨tis, fns_84⟩ := g_12.cons m_laws_szBridgeS
noncomputable def laws_szLinkS (a0 : List Link) (left1 : Int) : Option Int :=
  let left1_1 := w64 (left1 - (a0.length : Int))
  cond (decide (left1_1 < 0)) (some (-1)) (some left1_1)
noncomputable def F_laws_szLinkS : Fn := ⟨[.val false (.one (.sl cLink)) false, .val false (.one (.int .i64)) false], [.val false (.one (.int .i64)) true], fun a => laws_szLinkS a.1 a.2⟩
def a_laws_szLinkS : List (Nat × LoopAnn) := []
theorem e_laws_szLinkS : fnDen ⟨tis, fns_84⟩ a_laws_szLinkS Try.f85 (codeOf Try.f85) [.val false (.one (.sl cLink)) false, .val false (.one (.int .i64)) false] [.val false (.one (.int .i64)) true] = fun a => laws_szLinkS a.1 a.2 := by kernel_rfl
theorem m_laws_szLinkS : Meets Try.prog 85 F_laws_szLinkS := by
  have h := meets_of (ann := a_laws_szLinkS) (ps := [.val false (.one (.sl cLink)) false, .val false (.one (.int .i64)) false]) (rs := [.val false (.one (.int .i64)) true]) g_84 mixed Try.func85 (by kernel_rfl) (by kernel_rfl : Try.f85.body = some (codeOf Try.f85))
  rw [e_laws_szLinkS] at h
  exact h
noncomputable def fns_85 : List (FuncId × Fn) := (85, F_laws_szLinkS) :: fns_84
theorem g_85 : Good Try.prog ⟨tis, fns_85⟩ := g_84.cons m_laws_szLinkS
noncomputable def laws_szSayS (a0 : List Say) (left1 : Int) : Option Int :=
  let left1_1 := w64 (left1 - (a0.length : Int))
  cond (decide (left1_1 < 0)) (some (-1)) (some left1_1)
noncomputable def F_laws_szSayS : Fn := ⟨[.val false (.one (.sl cSay)) false, .val false (.one (.int .i64)) false], [.val false (.one (.int .i64)) true], fun a => laws_szSayS a.1 a.2⟩
def a_laws_szSayS : List (Nat × LoopAnn) := []
theorem e_laws_szSayS : fnDen ⟨tis, fns_85⟩ a_laws_szSayS Try.f86 (codeOf Try.f86) [.val false (.one (.sl cSay)) false, .val false (.one (.int .i64)) false] [.val false (.one (.int .i64)) true] = fun a => laws_szSayS a.1 a.2 := by kernel_rfl
theorem m_laws_szSayS : Meets Try.prog 86 F_laws_szSayS := by
  have h := meets_of (ann := a_laws_szSayS) (ps := [.val false (.one (.sl cSay)) false, .val false (.one (.int .i64)) false]) (rs := [.val false (.one (.int .i64)) true]) g_85 mixed Try.func86 (by kernel_rfl) (by kernel_rfl : Try.f86.body = some (codeOf Try.f86))
  rw [e_laws_szSayS] at h
  exact h
noncomputable def fns_86 : List (FuncId × Fn) := (86, F_laws_szSayS) :: fns_85
theorem g_86 : Good Try.prog ⟨tis, fns_86⟩ := g_85.cons m_laws_szSayS
noncomputable def laws_szNet (a0 : Net) (left1 : Int) : Option Int :=
  (laws_szBridgeS a0.1 left1).bind fun t8 =>
  cond (decide (t8 < 0))
    (some (-1))
    ((laws_szLinkS a0.2.1 t8).bind fun t14 =>
    cond (decide (t14 < 0))
      (some (-1))
      ((laws_szSayS a0.2.2 t14).bind fun t20 =>
      cond (decide (t20 < 0)) (some (-1)) (some t20)))
noncomputable def F_laws_szNet : Fn := ⟨[.val true cNet false, .val false (.one (.int .i64)) false], [.val false (.one (.int .i64)) true], fun a => laws_szNet a.1 a.2⟩
def a_laws_szNet : List (Nat × LoopAnn) := []
theorem e_laws_szNet : fnDen ⟨tis, fns_86⟩ a_laws_szNet Try.f24 (codeOf Try.f24) [.val true cNet false, .val false (.one (.int .i64)) false] [.val false (.one (.int .i64)) true] = fun a => laws_szNet a.1 a.2 := by kernel_rfl
theorem m_laws_szNet : Meets Try.prog 24 F_laws_szNet := by
  have h := meets_of (ann := a_laws_szNet) (ps := [.val true cNet false, .val false (.one (.int .i64)) false]) (rs := [.val false (.one (.int .i64)) true]) g_86 mixed Try.func24 (by kernel_rfl) (by kernel_rfl : Try.f24.body = some (codeOf Try.f24))
  rw [e_laws_szNet] at h
  exact h
noncomputable def fns_24 : List (FuncId × Fn) := (24, F_laws_szNet) :: fns_86
theorem g_24 : Good Try.prog ⟨tis, fns_24⟩ := g_86.cons m_laws_szNet
noncomputable def laws_toVec (a0 : Vec) : Option Vec :=
  some a0
noncomputable def F_laws_toVec : Fn := ⟨[.val true cVec false], [.val true cVec true], fun a => laws_toVec a⟩
def a_laws_toVec : List (Nat × LoopAnn) := []
theorem e_laws_toVec : fnDen ⟨tis, fns_24⟩ a_laws_toVec Try.f209 (codeOf Try.f209) [.val true cVec false] [.val true cVec true] = fun a => laws_toVec a := by kernel_rfl
theorem m_laws_toVec : Meets Try.prog 209 F_laws_toVec := by
  have h := meets_of (ann := a_laws_toVec) (ps := [.val true cVec false]) (rs := [.val true cVec true]) g_24 mixed Try.func209 (by kernel_rfl) (by kernel_rfl : Try.f209.body = some (codeOf Try.f209))
  rw [e_laws_toVec] at h
  exact h
noncomputable def fns_209 : List (FuncId × Fn) := (209, F_laws_toVec) :: fns_24
theorem g_209 : Good Try.prog ⟨tis, fns_209⟩ := g_24.cons m_laws_toVec
noncomputable def laws_toPt (a0 : Pt) : Option Pt :=
  (laws_toVec a0.2.2.2).bind fun t15 =>
  some (a0.1, a0.2.1, a0.2.2.1, t15.1, t15.2.1, t15.2.2.1, t15.2.2.2.1, t15.2.2.2.2)
noncomputable def F_laws_toPt : Fn := ⟨[.val true cPt false], [.val true cPt true], fun a => laws_toPt a⟩
def a_laws_toPt : List (Nat × LoopAnn) := []
theorem e_laws_toPt : fnDen ⟨tis, fns_209⟩ a_laws_toPt Try.f142 (codeOf Try.f142) [.val true cPt false] [.val true cPt true] = fun a => laws_toPt a := by kernel_rfl
theorem m_laws_toPt : Meets Try.prog 142 F_laws_toPt := by
  have h := meets_of (ann := a_laws_toPt) (ps := [.val true cPt false]) (rs := [.val true cPt true]) g_209 mixed Try.func142 (by kernel_rfl) (by kernel_rfl : Try.f142.body = some (codeOf Try.f142))
  rw [e_laws_toPt] at h
  exact h
noncomputable def fns_142 : List (FuncId × Fn) := (142, F_laws_toPt) :: fns_209
theorem g_142 : Good Try.prog ⟨tis, fns_142⟩ := g_209.cons m_laws_toPt
noncomputable def laws_toPtS_l0 (a0 : List Pt) (i4 : Int) (l : List Pt) : Option ((Int × List Pt) ⊕ (List Pt)) :=
  cond (decide (i4 < (a0.length : Int)))
    ((at? a0 i4).bind fun x18 =>
    (laws_toPt x18).bind fun t20 =>
    (ix l.length i4).bind fun j21 =>
    (l[j21]?).bind fun x =>
    some (.inl (w64 (i4 + 1), l.set j21 t20)))
    (some (.inr l))
noncomputable def laws_toPtS (a0 : List Pt) : Option (List Pt) :=
  (mkLen (a0.length : Int)).bind fun n =>
  (loop (fun z => laws_toPtS_l0 a0 z.1 z.2) (0, List.replicate n ((false, 0, false, 0, 0, 0, 0, 0) : Pt))).bind fun d =>
  some d
noncomputable def F_laws_toPtS : Fn := ⟨[.val false (.one (.sl cPt)) false], [.val false (.one (.sl cPt)) true], fun a => laws_toPtS a⟩
def a_laws_toPtS : List (Nat × LoopAnn) := [(0, ⟨⟨[(4, false, [.dat (.int .i64)])], [(265216, .keep cPt true)]⟩,
    ⟨[], [(265216, .keep cPt true)]⟩, none⟩)]
theorem e_laws_toPtS : fnDen ⟨tis, fns_142⟩ a_laws_toPtS Try.f69 (codeOf Try.f69) [.val false (.one (.sl cPt)) false] [.val false (.one (.sl cPt)) true] = fun a => laws_toPtS a := by kernel_rfl
theorem m_laws_toPtS : Meets Try.prog 69 F_laws_toPtS := by
  have h := meets_of (ann := a_laws_toPtS) (ps := [.val false (.one (.sl cPt)) false]) (rs := [.val false (.one (.sl cPt)) true]) g_142 mixed Try.func69 (by kernel_rfl) (by kernel_rfl : Try.f69.body = some (codeOf Try.f69))
  rw [e_laws_toPtS] at h
  exact h
noncomputable def fns_69 : List (FuncId × Fn) := (69, F_laws_toPtS) :: fns_142
theorem g_69 : Good Try.prog ⟨tis, fns_69⟩ := g_142.cons m_laws_toPtS
noncomputable def laws_toFent (a0 : Fent) : Option Fent :=
  some a0
noncomputable def F_laws_toFent : Fn := ⟨[.val true cFent false], [.val true cFent true], fun a => laws_toFent a⟩
def a_laws_toFent : List (Nat × LoopAnn) := []
theorem e_laws_toFent : fnDen ⟨tis, fns_69⟩ a_laws_toFent Try.f143 (codeOf Try.f143) [.val true cFent false] [.val true cFent true] = fun a => laws_toFent a := by kernel_rfl
theorem m_laws_toFent : Meets Try.prog 143 F_laws_toFent := by
  have h := meets_of (ann := a_laws_toFent) (ps := [.val true cFent false]) (rs := [.val true cFent true]) g_69 mixed Try.func143 (by kernel_rfl) (by kernel_rfl : Try.f143.body = some (codeOf Try.f143))
  rw [e_laws_toFent] at h
  exact h
noncomputable def fns_143 : List (FuncId × Fn) := (143, F_laws_toFent) :: fns_69
theorem g_143 : Good Try.prog ⟨tis, fns_143⟩ := g_69.cons m_laws_toFent
noncomputable def laws_toFentS_l0 (a0 : List Fent) (i4 : Int) (l : List Fent) : Option ((Int × List Fent) ⊕ (List Fent)) :=
  cond (decide (i4 < (a0.length : Int)))
    ((at? a0 i4).bind fun x18 =>
    (laws_toFent x18).bind fun t20 =>
    (ix l.length i4).bind fun j21 =>
    (l[j21]?).bind fun x =>
    some (.inl (w64 (i4 + 1), l.set j21 t20)))
    (some (.inr l))
noncomputable def laws_toFentS (a0 : List Fent) : Option (List Fent) :=
  (mkLen (a0.length : Int)).bind fun n =>
  (loop (fun z => laws_toFentS_l0 a0 z.1 z.2) (0, List.replicate n ((0, 0, 0, 0, false) : Fent))).bind fun d =>
  some d
noncomputable def F_laws_toFentS : Fn := ⟨[.val false (.one (.sl cFent)) false], [.val false (.one (.sl cFent)) true], fun a => laws_toFentS a⟩
def a_laws_toFentS : List (Nat × LoopAnn) := [(0, ⟨⟨[(4, false, [.dat (.int .i64)])], [(265216, .keep cFent true)]⟩,
    ⟨[], [(265216, .keep cFent true)]⟩, none⟩)]
theorem e_laws_toFentS : fnDen ⟨tis, fns_143⟩ a_laws_toFentS Try.f70 (codeOf Try.f70) [.val false (.one (.sl cFent)) false] [.val false (.one (.sl cFent)) true] = fun a => laws_toFentS a := by kernel_rfl
theorem m_laws_toFentS : Meets Try.prog 70 F_laws_toFentS := by
  have h := meets_of (ann := a_laws_toFentS) (ps := [.val false (.one (.sl cFent)) false]) (rs := [.val false (.one (.sl cFent)) true]) g_143 mixed Try.func70 (by kernel_rfl) (by kernel_rfl : Try.f70.body = some (codeOf Try.f70))
  rw [e_laws_toFentS] at h
  exact h
noncomputable def fns_70 : List (FuncId × Fn) := (70, F_laws_toFentS) :: fns_143
theorem g_70 : Good Try.prog ⟨tis, fns_70⟩ := g_143.cons m_laws_toFentS
noncomputable def laws_toIntS_l0 (a0 : List Int) (i4 : Int) (l : List Int) : Option ((Int × List Int) ⊕ (List Int)) :=
  cond (decide (i4 < (a0.length : Int)))
    ((at? a0 i4).bind fun x18 =>
    (ix l.length i4).bind fun j20 =>
    (l[j20]?).bind fun x =>
    some (.inl (w64 (i4 + 1), l.set j20 x18)))
    (some (.inr l))
noncomputable def laws_toIntS (a0 : List Int) : Option (List Int) :=
  (mkLen (a0.length : Int)).bind fun n =>
  (loop (fun z => laws_toIntS_l0 a0 z.1 z.2) (0, List.replicate n (0 : Int))).bind fun d =>
  some d
noncomputable def F_laws_toIntS : Fn := ⟨[.val false (.one (.sl (.one (.int .i64)))) false], [.val false (.one (.sl (.one (.int .i64)))) true], fun a => laws_toIntS a⟩
def a_laws_toIntS : List (Nat × LoopAnn) := [(0, ⟨⟨[(4, false, [.dat (.int .i64)])], [(265216, .keep (.one (.int .i64)) true)]⟩,
    ⟨[], [(265216, .keep (.one (.int .i64)) true)]⟩, none⟩)]
theorem e_laws_toIntS : fnDen ⟨tis, fns_70⟩ a_laws_toIntS Try.f15 (codeOf Try.f15) [.val false (.one (.sl (.one (.int .i64)))) false] [.val false (.one (.sl (.one (.int .i64)))) true] = fun a => laws_toIntS a := by kernel_rfl
theorem m_laws_toIntS : Meets Try.prog 15 F_laws_toIntS := by
  have h := meets_of (ann := a_laws_toIntS) (ps := [.val false (.one (.sl (.one (.int .i64)))) false]) (rs := [.val false (.one (.sl (.one (.int .i64)))) true]) g_70 mixed Try.func15 (by kernel_rfl) (by kernel_rfl : Try.f15.body = some (codeOf Try.f15))
  rw [e_laws_toIntS] at h
  exact h
noncomputable def fns_15 : List (FuncId × Fn) := (15, F_laws_toIntS) :: fns_70
theorem g_15 : Good Try.prog ⟨tis, fns_15⟩ := g_70.cons m_laws_toIntS
noncomputable def laws_toVrow (a0 : Vrow) : Option Vrow :=
  some a0
noncomputable def F_laws_toVrow : Fn := ⟨[.val true cVrow false], [.val true cVrow true], fun a => laws_toVrow a⟩
def a_laws_toVrow : List (Nat × LoopAnn) := []
theorem e_laws_toVrow : fnDen ⟨tis, fns_15⟩ a_laws_toVrow Try.f210 (codeOf Try.f210) [.val true cVrow false] [.val true cVrow true] = fun a => laws_toVrow a := by kernel_rfl
theorem m_laws_toVrow : Meets Try.prog 210 F_laws_toVrow := by
  have h := meets_of (ann := a_laws_toVrow) (ps := [.val true cVrow false]) (rs := [.val true cVrow true]) g_15 mixed Try.func210 (by kernel_rfl) (by kernel_rfl : Try.f210.body = some (codeOf Try.f210))
  rw [e_laws_toVrow] at h
  exact h
noncomputable def fns_210 : List (FuncId × Fn) := (210, F_laws_toVrow) :: fns_15
theorem g_210 : Good Try.prog ⟨tis, fns_210⟩ := g_15.cons m_laws_toVrow
noncomputable def laws_toVrowS_l0 (a0 : List Vrow) (i4 : Int) (l : List Vrow) : Option ((Int × List Vrow) ⊕ (List Vrow)) :=
  cond (decide (i4 < (a0.length : Int)))
    ((at? a0 i4).bind fun x18 =>
    (laws_toVrow x18).bind fun t20 =>
    (ix l.length i4).bind fun j21 =>
    (l[j21]?).bind fun x =>
    some (.inl (w64 (i4 + 1), l.set j21 t20)))
    (some (.inr l))
noncomputable def laws_toVrowS (a0 : List Vrow) : Option (List Vrow) :=
  (mkLen (a0.length : Int)).bind fun n =>
  (loop (fun z => laws_toVrowS_l0 a0 z.1 z.2) (0, List.replicate n ((0, 0, 0) : Vrow))).bind fun d =>
  some d
noncomputable def F_laws_toVrowS : Fn := ⟨[.val false (.one (.sl cVrow)) false], [.val false (.one (.sl cVrow)) true], fun a => laws_toVrowS a⟩
def a_laws_toVrowS : List (Nat × LoopAnn) := [(0, ⟨⟨[(4, false, [.dat (.int .i64)])], [(265216, .keep cVrow true)]⟩,
    ⟨[], [(265216, .keep cVrow true)]⟩, none⟩)]
theorem e_laws_toVrowS : fnDen ⟨tis, fns_210⟩ a_laws_toVrowS Try.f144 (codeOf Try.f144) [.val false (.one (.sl cVrow)) false] [.val false (.one (.sl cVrow)) true] = fun a => laws_toVrowS a := by kernel_rfl
theorem m_laws_toVrowS : Meets Try.prog 144 F_laws_toVrowS := by
  have h := meets_of (ann := a_laws_toVrowS) (ps := [.val false (.one (.sl cVrow)) false]) (rs := [.val false (.one (.sl cVrow)) true]) g_210 mixed Try.func144 (by kernel_rfl) (by kernel_rfl : Try.f144.body = some (codeOf Try.f144))
  rw [e_laws_toVrowS] at h
  exact h
noncomputable def fns_144 : List (FuncId × Fn) := (144, F_laws_toVrowS) :: fns_210
theorem g_144 : Good Try.prog ⟨tis, fns_144⟩ := g_210.cons m_laws_toVrowS
noncomputable def laws_toVtab (a0 : Vtab) : Option Vtab :=
  (laws_toVrowS a0.1).bind fun t6 =>
  (laws_toIntS a0.2).bind fun t10 =>
  some (t6, t10)
noncomputable def F_laws_toVtab : Fn := ⟨[.val true cVtab false], [.val true cVtab true], fun a => laws_toVtab a⟩
def a_laws_toVtab : List (Nat × LoopAnn) := []
theorem e_laws_toVtab : fnDen ⟨tis, fns_144⟩ a_laws_toVtab Try.f71 (codeOf Try.f71) [.val true cVtab false] [.val true cVtab true] = fun a => laws_toVtab a := by kernel_rfl
theorem m_laws_toVtab : Meets Try.prog 71 F_laws_toVtab := by
  have h := meets_of (ann := a_laws_toVtab) (ps := [.val true cVtab false]) (rs := [.val true cVtab true]) g_144 mixed Try.func71 (by kernel_rfl) (by kernel_rfl : Try.f71.body = some (codeOf Try.f71))
  rw [e_laws_toVtab] at h
  exact h
noncomputable def fns_71 : List (FuncId × Fn) := (71, F_laws_toVtab) :: fns_144
theorem g_71 : Good Try.prog ⟨tis, fns_71⟩ := g_144.cons m_laws_toVtab
noncomputable def laws_toBridge (a0 : Bridge) : Option Bridge :=
  (laws_toPtS a0.2.2.1).bind fun t12 =>
  (laws_toFentS a0.2.2.2.1).bind fun t16 =>
  (laws_toVtab (a0.2.2.2.2.1, a0.2.2.2.2.2.1)).bind fun t20 =>
  some (a0.1, a0.2.1, t12, t16, t20.1, t20.2, a0.2.2.2.2.2.2.1, a0.2.2.2.2.2.2.2.1, a0.2.2.2.2.2.2.2.2.1, a0.2.2.2.2.2.2.2.2.2.1, a0.2.2.2.2.2.2.2.2.2.2)
noncomputable def F_laws_toBridge : Fn := ⟨[.val true cBridge false], [.val true cBridge true], fun a => laws_toBridge a⟩
def a_laws_toBridge : List (Nat × LoopAnn) := []
theorem e_laws_toBridge : fnDen ⟨tis, fns_71⟩ a_laws_toBridge Try.f14 (codeOf Try.f14) [.val true cBridge false] [.val true cBridge true] = fun a => laws_toBridge a := by kernel_rfl
theorem m_laws_toBridge : Meets Try.prog 14 F_laws_toBridge := by
  have h := meets_of (ann := a_laws_toBridge) (ps := [.val true cBridge false]) (rs := [.val true cBridge true]) g_71 mixed Try.func14 (by kernel_rfl) (by kernel_rfl : Try.f14.body = some (codeOf Try.f14))
  rw [e_laws_toBridge] at h
  exact h
noncomputable def fns_14 : List (FuncId × Fn) := (14, F_laws_toBridge) :: fns_71
theorem g_14 : Good Try.prog ⟨tis, fns_14⟩ := g_71.cons m_laws_toBridge
noncomputable def laws_toBridgeS_l0 (a0 : List Bridge) (i4 : Int) (l : List Bridge) : Option ((Int × List Bridge) ⊕ (List Bridge)) :=
  cond (decide (i4 < (a0.length : Int)))
    ((at? a0 i4).bind fun x18 =>
    (laws_toBridge x18).bind fun t20 =>
    (ix l.length i4).bind fun j21 =>
    (l[j21]?).bind fun x =>
    some (.inl (w64 (i4 + 1), l.set j21 t20)))
    (some (.inr l))
noncomputable def laws_toBridgeS (a0 : List Bridge) : Option (List Bridge) :=
  (mkLen (a0.length : Int)).bind fun n =>
  (loop (fun z => laws_toBridgeS_l0 a0 z.1 z.2) (0, List.replicate n ((0, [], [], [], [], [], 0, 0, 0, 0, 0) : Bridge))).bind fun d =>
  some d
noncomputable def F_laws_toBridgeS : Fn := ⟨[.val false (.one (.sl cBridge)) false], [.val false (.one (.sl cBridge)) true], fun a => laws_toBridgeS a⟩
def a_laws_toBridgeS : List (Nat × LoopAnn) := [(0, ⟨⟨[(4, false, [.dat (.int .i64)])], [(265216, .keep cBridge true)]⟩,
    ⟨[], [(265216, .keep cBridge true)]⟩, none⟩)]
theorem e_laws_toBridgeS : fnDen ⟨tis, fns_14⟩ a_laws_toBridgeS Try.f88 (codeOf Try.f88) [.val false (.one (.sl cBridge)) false] [.val false (.one (.sl cBridge)) true] = fun a => laws_toBridgeS a := by kernel_rfl
theorem m_laws_toBridgeS : Meets Try.prog 88 F_laws_toBridgeS := by
  have h := meets_of (ann := a_laws_toBridgeS) (ps := [.val false (.one (.sl cBridge)) false]) (rs := [.val false (.one (.sl cBridge)) true]) g_14 mixed Try.func88 (by kernel_rfl) (by kernel_rfl : Try.f88.body = some (codeOf Try.f88))
  rw [e_laws_toBridgeS] at h
  exact h
noncomputable def fns_88 : List (FuncId × Fn) := (88, F_laws_toBridgeS) :: fns_14
theorem g_88 : Good Try.prog ⟨tis, fns_88⟩ := g_14.cons m_laws_toBridgeS
noncomputable def laws_toLink (a0 : Link) : Option Link :=
  some a0
noncomputable def F_laws_toLink : Fn := ⟨[.val true cLink false], [.val true cLink true], fun a => laws_toLink a⟩
def a_laws_toLink : List (Nat × LoopAnn) := []
theorem e_laws_toLink : fnDen ⟨tis, fns_88⟩ a_laws_toLink Try.f170 (codeOf Try.f170) [.val true cLink false] [.val true cLink true] = fun a => laws_toLink a := by kernel_rfl
theorem m_laws_toLink : Meets Try.prog 170 F_laws_toLink := by
  have h := meets_of (ann := a_laws_toLink) (ps := [.val true cLink false]) (rs := [.val true cLink true]) g_88 mixed Try.func170 (by kernel_rfl) (by kernel_rfl : Try.f170.body = some (codeOf Try.f170))
  rw [e_laws_toLink] at h
  exact h
noncomputable def fns_170 : List (FuncId × Fn) := (170, F_laws_toLink) :: fns_88
theorem g_170 : Good Try.prog ⟨tis, fns_170⟩ := g_88.cons m_laws_toLink
noncomputable def laws_toLinkS_l0 (a0 : List Link) (i4 : Int) (l : List Link) : Option ((Int × List Link) ⊕ (List Link)) :=
  cond (decide (i4 < (a0.length : Int)))
    ((at? a0 i4).bind fun x18 =>
    (laws_toLink x18).bind fun t20 =>
    (ix l.length i4).bind fun j21 =>
    (l[j21]?).bind fun x =>
    some (.inl (w64 (i4 + 1), l.set j21 t20)))
    (some (.inr l))
noncomputable def laws_toLinkS (a0 : List Link) : Option (List Link) :=
  (mkLen (a0.length : Int)).bind fun n =>
  (loop (fun z => laws_toLinkS_l0 a0 z.1 z.2) (0, List.replicate n ((0, 0, 0, 0) : Link))).bind fun d =>
  some d
noncomputable def F_laws_toLinkS : Fn := ⟨[.val false (.one (.sl cLink)) false], [.val false (.one (.sl cLink)) true], fun a => laws_toLinkS a⟩
def a_laws_toLinkS : List (Nat × LoopAnn) := [(0, ⟨⟨[(4, false, [.dat (.int .i64)])], [(265216, .keep cLink true)]⟩,
    ⟨[], [(265216, .keep cLink true)]⟩, none⟩)]
theorem e_laws_toLinkS : fnDen ⟨tis, fns_170⟩ a_laws_toLinkS Try.f89 (codeOf Try.f89) [.val false (.one (.sl cLink)) false] [.val false (.one (.sl cLink)) true] = fun a => laws_toLinkS a := by kernel_rfl
theorem m_laws_toLinkS : Meets Try.prog 89 F_laws_toLinkS := by
  have h := meets_of (ann := a_laws_toLinkS) (ps := [.val false (.one (.sl cLink)) false]) (rs := [.val false (.one (.sl cLink)) true]) g_170 mixed Try.func89 (by kernel_rfl) (by kernel_rfl : Try.f89.body = some (codeOf Try.f89))
  rw [e_laws_toLinkS] at h
  exact h
noncomputable def fns_89 : List (FuncId × Fn) := (89, F_laws_toLinkS) :: fns_170
theorem g_89 : Good Try.prog ⟨tis, fns_89⟩ := g_170.cons m_laws_toLinkS
noncomputable def laws_toSay (a0 : Say) : Option Say :=
  (laws_toVec a0.2.2).bind fun t12 =>
  some (a0.1, a0.2.1, t12.1, t12.2.1, t12.2.2.1, t12.2.2.2.1, t12.2.2.2.2)
noncomputable def F_laws_toSay : Fn := ⟨[.val true cSay false], [.val true cSay true], fun a => laws_toSay a⟩
def a_laws_toSay : List (Nat × LoopAnn) := []
theorem e_laws_toSay : fnDen ⟨tis, fns_89⟩ a_laws_toSay Try.f171 (codeOf Try.f171) [.val true cSay false] [.val true cSay true] = fun a => laws_toSay a := by kernel_rfl
theorem m_laws_toSay : Meets Try.prog 171 F_laws_toSay := by
  have h := meets_of (ann := a_laws_toSay) (ps := [.val true cSay false]) (rs := [.val true cSay true]) g_89 mixed Try.func171 (by kernel_rfl) (by kernel_rfl : Try.f171.body = some (codeOf Try.f171))
  rw [e_laws_toSay] at h
  exact h
noncomputable def fns_171 : List (FuncId × Fn) := (171, F_laws_toSay) :: fns_89
theorem g_171 : Good Try.prog ⟨tis, fns_171⟩ := g_89.cons m_laws_toSay
noncomputable def laws_toSayS_l0 (a0 : List Say) (i4 : Int) (l : List Say) : Option ((Int × List Say) ⊕ (List Say)) :=
  cond (decide (i4 < (a0.length : Int)))
    ((at? a0 i4).bind fun x18 =>
    (laws_toSay x18).bind fun t20 =>
    (ix l.length i4).bind fun j21 =>
    (l[j21]?).bind fun x =>
    some (.inl (w64 (i4 + 1), l.set j21 t20)))
    (some (.inr l))
noncomputable def laws_toSayS (a0 : List Say) : Option (List Say) :=
  (mkLen (a0.length : Int)).bind fun n =>
  (loop (fun z => laws_toSayS_l0 a0 z.1 z.2) (0, List.replicate n ((0, false, 0, 0, 0, 0, 0) : Say))).bind fun d =>
  some d
noncomputable def F_laws_toSayS : Fn := ⟨[.val false (.one (.sl cSay)) false], [.val false (.one (.sl cSay)) true], fun a => laws_toSayS a⟩
def a_laws_toSayS : List (Nat × LoopAnn) := [(0, ⟨⟨[(4, false, [.dat (.int .i64)])], [(265216, .keep cSay true)]⟩,
    ⟨[], [(265216, .keep cSay true)]⟩, none⟩)]
theorem e_laws_toSayS : fnDen ⟨tis, fns_171⟩ a_laws_toSayS Try.f90 (codeOf Try.f90) [.val false (.one (.sl cSay)) false] [.val false (.one (.sl cSay)) true] = fun a => laws_toSayS a := by kernel_rfl
theorem m_laws_toSayS : Meets Try.prog 90 F_laws_toSayS := by
  have h := meets_of (ann := a_laws_toSayS) (ps := [.val false (.one (.sl cSay)) false]) (rs := [.val false (.one (.sl cSay)) true]) g_171 mixed Try.func90 (by kernel_rfl) (by kernel_rfl : Try.f90.body = some (codeOf Try.f90))
  rw [e_laws_toSayS] at h
  exact h
noncomputable def fns_90 : List (FuncId × Fn) := (90, F_laws_toSayS) :: fns_171
theorem g_90 : Good Try.prog ⟨tis, fns_90⟩ := g_171.cons m_laws_toSayS
noncomputable def laws_toNet (a0 : Net) : Option Net :=
  (laws_toBridgeS a0.1).bind fun t6 =>
  (laws_toLinkS a0.2.1).bind fun t10 =>
  (laws_toSayS a0.2.2).bind fun t14 =>
  some (t6, t10, t14)
noncomputable def F_laws_toNet : Fn := ⟨[.val true cNet false], [.val true cNet true], fun a => laws_toNet a⟩
def a_laws_toNet : List (Nat × LoopAnn) := []
theorem e_laws_toNet : fnDen ⟨tis, fns_90⟩ a_laws_toNet Try.f26 (codeOf Try.f26) [.val true cNet false] [.val true cNet true] = fun a => laws_toNet a := by kernel_rfl
theorem m_laws_toNet : Meets Try.prog 26 F_laws_toNet := by
  have h := meets_of (ann := a_laws_toNet) (ps := [.val true cNet false]) (rs := [.val true cNet true]) g_90 mixed Try.func26 (by kernel_rfl) (by kernel_rfl : Try.f26.body = some (codeOf Try.f26))
  rw [e_laws_toNet] at h
  exact h
noncomputable def fns_26 : List (FuncId × Fn) := (26, F_laws_toNet) :: fns_90
theorem g_26 : Good Try.prog ⟨tis, fns_26⟩ := g_90.cons m_laws_toNet
noncomputable def laws_eqVec (a0 : Vec) (b1 : Vec) : Option Bool :=
  cond (a0.1 != b1.1)
    (some false)
    (cond (a0.2.1 != b1.2.1)
      (some false)
      (cond (a0.2.2.1 != b1.2.2.1)
        (some false)
        (cond (a0.2.2.2.1 != b1.2.2.2.1)
          (some false)
          (cond (a0.2.2.2.2 != b1.2.2.2.2) (some false) (some true)))))
noncomputable def F_laws_eqVec : Fn := ⟨[.val true cVec false, .val true cVec false], [.val false (.one .bool) true], fun a => laws_eqVec a.1 a.2⟩
def a_laws_eqVec : List (Nat × LoopAnn) := []
theorem e_laws_eqVec : fnDen ⟨tis, fns_26⟩ a_laws_eqVec Try.f213 (codeOf Try.f213) [.val true cVec false, .val true cVec false] [.val false (.one .bool) true] = fun a => laws_eqVec a.1 a.2 := by kernel_rfl
theorem m_laws_eqVec : Meets Try.prog 213 F_laws_eqVec := by
  have h := meets_of (ann := a_laws_eqVec) (ps := [.val true cVec false, .val true cVec false]) (rs := [.val false (.one .bool) true]) g_26 mixed Try.func213 (by kernel_rfl) (by kernel_rfl : Try.f213.body = some (codeOf Try.f213))
  rw [e_laws_eqVec] at h
  exact h
noncomputable def fns_213 : List (FuncId × Fn) := (213, F_laws_eqVec) :: fns_26
theorem g_213 : Good Try.prog ⟨tis, fns_213⟩ := g_26.cons m_laws_eqVec
noncomputable def laws_eqPt (a0 : Pt) (b1 : Pt) : Option Bool :=
  cond (!(a0.1 == b1.1))
    (some false)
    (cond (a0.2.1 != b1.2.1)
      (some false)
      (cond (!(a0.2.2.1 == b1.2.2.1))
        (some false)
        ((laws_eqVec a0.2.2.2 b1.2.2.2).bind fun t24 =>
        cond (!t24) (some false) (some true))))
noncomputable def F_laws_eqPt : Fn := ⟨[.val true cPt false, .val true cPt false], [.val false (.one .bool) true], fun a => laws_eqPt a.1 a.2⟩
def a_laws_eqPt : List (Nat × LoopAnn) := []
theorem e_laws_eqPt : fnDen ⟨tis, fns_213⟩ a_laws_eqPt Try.f148 (codeOf Try.f148) [.val true cPt false, .val true cPt false] [.val false (.one .bool) true] = fun a => laws_eqPt a.1 a.2 := by kernel_rfl
theorem m_laws_eqPt : Meets Try.prog 148 F_laws_eqPt := by
  have h := meets_of (ann := a_laws_eqPt) (ps := [.val true cPt false, .val true cPt false]) (rs := [.val false (.one .bool) true]) g_213 mixed Try.func148 (by kernel_rfl) (by kernel_rfl : Try.f148.body = some (codeOf Try.f148))
  rw [e_laws_eqPt] at h
  exact h
noncomputable def fns_148 : List (FuncId × Fn) := (148, F_laws_eqPt) :: fns_213
theorem g_148 : Good Try.prog ⟨tis, fns_148⟩ := g_213.cons m_laws_eqPt
noncomputable def laws_eqPtS_l0 (a0 : List Pt) (b1 : List Pt) (i5 : Int) : Option (Int ⊕ (Unit ⊕ Bool)) :=
  cond (decide (i5 < (a0.length : Int)))
    ((at? a0 i5).bind fun x19 =>
    (at? b1 i5).bind fun x23 =>
    (laws_eqPt x19 x23).bind fun t25 =>
    cond (!t25) (some (.inr (.inr false))) (some (.inl (w64 (i5 + 1)))))
    (some (.inr (.inl ())))
noncomputable def laws_eqPtS (a0 : List Pt) (b1 : List Pt) : Option Bool :=
  cond ((a0.length : Int) != (b1.length : Int))
    (some false)
    ((loop (fun z => laws_eqPtS_l0 a0 b1 z) 0).bind (Sum.elim (fun d =>
      some true) (fun r => some r)))
noncomputable def F_laws_eqPtS : Fn := ⟨[.val false (.one (.sl cPt)) false, .val false (.one (.sl cPt)) false], [.val false (.one .bool) true], fun a => laws_eqPtS a.1 a.2⟩
def a_laws_eqPtS : List (Nat × LoopAnn) := [(0, ⟨⟨[(5, false, [.dat (.int .i64)])], []⟩,
    ⟨[], []⟩, some ⟨[(4, false, [.dat .bool])], []⟩⟩)]
theorem e_laws_eqPtS : fnDen ⟨tis, fns_148⟩ a_laws_eqPtS Try.f74 (codeOf Try.f74) [.val false (.one (.sl cPt)) false, .val false (.one (.sl cPt)) false] [.val false (.one .bool) true] = fun a => laws_eqPtS a.1 a.2 := by kernel_rfl
theorem m_laws_eqPtS : Meets Try.prog 74 F_laws_eqPtS := by
  have h := meets_of (ann := a_laws_eqPtS) (ps := [.val false (.one (.sl cPt)) false, .val false (.one (.sl cPt)) false]) (rs := [.val false (.one .bool) true]) g_148 mixed Try.func74 (by kernel_rfl) (by kernel_rfl : Try.f74.body = some (codeOf Try.f74))
  rw [e_laws_eqPtS] at h
  exact h
noncomputable def fns_74 : List (FuncId × Fn) := (74, F_laws_eqPtS) :: fns_148
theorem g_74 : Good Try.prog ⟨tis, fns_74⟩ := g_148.cons m_laws_eqPtS
noncomputable def laws_eqFent (a0 : Fent) (b1 : Fent) : Option Bool :=
  cond (a0.1 != b1.1)
    (some false)
    (cond (a0.2.1 != b1.2.1)
      (some false)
      (cond (a0.2.2.1 != b1.2.2.1)
        (some false)
        (cond (a0.2.2.2.1 != b1.2.2.2.1)
          (some false)
          (cond (!(a0.2.2.2.2 == b1.2.2.2.2)) (some false) (some true)))))
noncomputable def F_laws_eqFent : Fn := ⟨[.val true cFent false, .val true cFent false], [.val false (.one .bool) true], fun a => laws_eqFent a.1 a.2⟩
def a_laws_eqFent : List (Nat × LoopAnn) := []
theorem e_laws_eqFent : fnDen ⟨tis, fns_74⟩ a_laws_eqFent Try.f149 (codeOf Try.f149) [.val true cFent false, .val true cFent false] [.val false (.one .bool) true] = fun a => laws_eqFent a.1 a.2 := by kernel_rfl
theorem m_laws_eqFent : Meets Try.prog 149 F_laws_eqFent := by
  have h := meets_of (ann := a_laws_eqFent) (ps := [.val true cFent false, .val true cFent false]) (rs := [.val false (.one .bool) true]) g_74 mixed Try.func149 (by kernel_rfl) (by kernel_rfl : Try.f149.body = some (codeOf Try.f149))
  rw [e_laws_eqFent] at h
  exact h
noncomputable def fns_149 : List (FuncId × Fn) := (149, F_laws_eqFent) :: fns_74
theorem g_149 : Good Try.prog ⟨tis, fns_149⟩ := g_74.cons m_laws_eqFent
noncomputable def laws_eqFentS_l0 (a0 : List Fent) (b1 : List Fent) (i5 : Int) : Option (Int ⊕ (Unit ⊕ Bool)) :=
  cond (decide (i5 < (a0.length : Int)))
    ((at? a0 i5).bind fun x19 =>
    (at? b1 i5).bind fun x23 =>
    (laws_eqFent x19 x23).bind fun t25 =>
    cond (!t25) (some (.inr (.inr false))) (some (.inl (w64 (i5 + 1)))))
    (some (.inr (.inl ())))
noncomputable def laws_eqFentS (a0 : List Fent) (b1 : List Fent) : Option Bool :=
  cond ((a0.length : Int) != (b1.length : Int))
    (some false)
    ((loop (fun z => laws_eqFentS_l0 a0 b1 z) 0).bind (Sum.elim (fun d =>
      some true) (fun r => some r)))
noncomputable def F_laws_eqFentS : Fn := ⟨[.val false (.one (.sl cFent)) false, .val false (.one (.sl cFent)) false], [.val false (.one .bool) true], fun a => laws_eqFentS a.1 a.2⟩
def a_laws_eqFentS : List (Nat × LoopAnn) := [(0, ⟨⟨[(5, false, [.dat (.int .i64)])], []⟩,
    ⟨[], []⟩, some ⟨[(4, false, [.dat .bool])], []⟩⟩)]
theorem e_laws_eqFentS : fnDen ⟨tis, fns_149⟩ a_laws_eqFentS Try.f75 (codeOf Try.f75) [.val false (.one (.sl cFent)) false, .val false (.one (.sl cFent)) false] [.val false (.one .bool) true] = fun a => laws_eqFentS a.1 a.2 := by kernel_rfl
theorem m_laws_eqFentS : Meets Try.prog 75 F_laws_eqFentS := by
  have h := meets_of (ann := a_laws_eqFentS) (ps := [.val false (.one (.sl cFent)) false, .val false (.one (.sl cFent)) false]) (rs := [.val false (.one .bool) true]) g_149 mixed Try.func75 (by kernel_rfl) (by kernel_rfl : Try.f75.body = some (codeOf Try.f75))
  rw [e_laws_eqFentS] at h
  exact h
noncomputable def fns_75 : List (FuncId × Fn) := (75, F_laws_eqFentS) :: fns_149
theorem g_75 : Good Try.prog ⟨tis, fns_75⟩ := g_149.cons m_laws_eqFentS
noncomputable def laws_eqIntS_l0 (a0 : List Int) (b1 : List Int) (i5 : Int) : Option (Int ⊕ (Unit ⊕ Bool)) :=
  cond (decide (i5 < (a0.length : Int)))
    ((at? a0 i5).bind fun x19 =>
    (at? b1 i5).bind fun x23 =>
    cond (x19 != x23) (some (.inr (.inr false))) (some (.inl (w64 (i5 + 1)))))
    (some (.inr (.inl ())))
noncomputable def laws_eqIntS (a0 : List Int) (b1 : List Int) : Option Bool :=
  cond ((a0.length : Int) != (b1.length : Int))
    (some false)
    ((loop (fun z => laws_eqIntS_l0 a0 b1 z) 0).bind (Sum.elim (fun d =>
      some true) (fun r => some r)))
noncomputable def F_laws_eqIntS : Fn := ⟨[.val false (.one (.sl (.one (.int .i64)))) false, .val false (.one (.sl (.one (.int .i64)))) false], [.val false (.one .bool) true], fun a => laws_eqIntS a.1 a.2⟩
def a_laws_eqIntS : List (Nat × LoopAnn) := [(0, ⟨⟨[(5, false, [.dat (.int .i64)])], []⟩,
    ⟨[], []⟩, some ⟨[(4, false, [.dat .bool])], []⟩⟩)]
theorem e_laws_eqIntS : fnDen ⟨tis, fns_75⟩ a_laws_eqIntS Try.f18 (codeOf Try.f18) [.val false (.one (.sl (.one (.int .i64)))) false, .val false (.one (.sl (.one (.int .i64)))) false] [.val false (.one .bool) true] = fun a => laws_eqIntS a.1 a.2 := by kernel_rfl
theorem m_laws_eqIntS : Meets Try.prog 18 F_laws_eqIntS := by
  have h := meets_of (ann := a_laws_eqIntS) (ps := [.val false (.one (.sl (.one (.int .i64)))) false, .val false (.one (.sl (.one (.int .i64)))) false]) (rs := [.val false (.one .bool) true]) g_75 mixed Try.func18 (by kernel_rfl) (by kernel_rfl : Try.f18.body = some (codeOf Try.f18))
  rw [e_laws_eqIntS] at h
  exact h
noncomputable def fns_18 : List (FuncId × Fn) := (18, F_laws_eqIntS) :: fns_75
theorem g_18 : Good Try.prog ⟨tis, fns_18⟩ := g_75.cons m_laws_eqIntS
noncomputable def laws_eqVrow (a0 : Vrow) (b1 : Vrow) : Option Bool :=
  cond (a0.1 != b1.1)
    (some false)
    (cond (a0.2.1 != b1.2.1) (some false) (cond (a0.2.2 != b1.2.2) (some false) (some true)))
noncomputable def F_laws_eqVrow : Fn := ⟨[.val true cVrow false, .val true cVrow false], [.val false (.one .bool) true], fun a => laws_eqVrow a.1 a.2⟩
def a_laws_eqVrow : List (Nat × LoopAnn) := []
theorem e_laws_eqVrow : fnDen ⟨tis, fns_18⟩ a_laws_eqVrow Try.f214 (codeOf Try.f214) [.val true cVrow false, .val true cVrow false] [.val false (.one .bool) true] = fun a => laws_eqVrow a.1 a.2 := by kernel_rfl
theorem m_laws_eqVrow : Meets Try.prog 214 F_laws_eqVrow := by
  have h := meets_of (ann := a_laws_eqVrow) (ps := [.val true cVrow false, .val true cVrow false]) (rs := [.val false (.one .bool) true]) g_18 mixed Try.func214 (by kernel_rfl) (by kernel_rfl : Try.f214.body = some (codeOf Try.f214))
  rw [e_laws_eqVrow] at h
  exact h
noncomputable def fns_214 : List (FuncId × Fn) := (214, F_laws_eqVrow) :: fns_18
theorem g_214 : Good Try.prog ⟨tis, fns_214⟩ := g_18.cons m_laws_eqVrow
noncomputable def laws_eqVrowS_l0 (a0 : List Vrow) (b1 : List Vrow) (i5 : Int) : Option (Int ⊕ (Unit ⊕ Bool)) :=
  cond (decide (i5 < (a0.length : Int)))
    ((at? a0 i5).bind fun x19 =>
    (at? b1 i5).bind fun x23 =>
    (laws_eqVrow x19 x23).bind fun t25 =>
    cond (!t25) (some (.inr (.inr false))) (some (.inl (w64 (i5 + 1)))))
    (some (.inr (.inl ())))
noncomputable def laws_eqVrowS (a0 : List Vrow) (b1 : List Vrow) : Option Bool :=
  cond ((a0.length : Int) != (b1.length : Int))
    (some false)
    ((loop (fun z => laws_eqVrowS_l0 a0 b1 z) 0).bind (Sum.elim (fun d =>
      some true) (fun r => some r)))
noncomputable def F_laws_eqVrowS : Fn := ⟨[.val false (.one (.sl cVrow)) false, .val false (.one (.sl cVrow)) false], [.val false (.one .bool) true], fun a => laws_eqVrowS a.1 a.2⟩
def a_laws_eqVrowS : List (Nat × LoopAnn) := [(0, ⟨⟨[(5, false, [.dat (.int .i64)])], []⟩,
    ⟨[], []⟩, some ⟨[(4, false, [.dat .bool])], []⟩⟩)]
theorem e_laws_eqVrowS : fnDen ⟨tis, fns_214⟩ a_laws_eqVrowS Try.f150 (codeOf Try.f150) [.val false (.one (.sl cVrow)) false, .val false (.one (.sl cVrow)) false] [.val false (.one .bool) true] = fun a => laws_eqVrowS a.1 a.2 := by kernel_rfl
theorem m_laws_eqVrowS : Meets Try.prog 150 F_laws_eqVrowS := by
  have h := meets_of (ann := a_laws_eqVrowS) (ps := [.val false (.one (.sl cVrow)) false, .val false (.one (.sl cVrow)) false]) (rs := [.val false (.one .bool) true]) g_214 mixed Try.func150 (by kernel_rfl) (by kernel_rfl : Try.f150.body = some (codeOf Try.f150))
  rw [e_laws_eqVrowS] at h
  exact h
noncomputable def fns_150 : List (FuncId × Fn) := (150, F_laws_eqVrowS) :: fns_214
theorem g_150 : Good Try.prog ⟨tis, fns_150⟩ := g_214.cons m_laws_eqVrowS
noncomputable def laws_eqVtab (a0 : Vtab) (b1 : Vtab) : Option Bool :=
  (laws_eqVrowS a0.1 b1.1).bind fun t9 =>
  cond (!t9)
    (some false)
    ((laws_eqIntS a0.2 b1.2).bind fun t15 =>
    cond (!t15) (some false) (some true))
noncomputable def F_laws_eqVtab : Fn := ⟨[.val true cVtab false, .val true cVtab false], [.val false (.one .bool) true], fun a => laws_eqVtab a.1 a.2⟩
def a_laws_eqVtab : List (Nat × LoopAnn) := []
theorem e_laws_eqVtab : fnDen ⟨tis, fns_150⟩ a_laws_eqVtab Try.f76 (codeOf Try.f76) [.val true cVtab false, .val true cVtab false] [.val false (.one .bool) true] = fun a => laws_eqVtab a.1 a.2 := by kernel_rfl
theorem m_laws_eqVtab : Meets Try.prog 76 F_laws_eqVtab := by
  have h := meets_of (ann := a_laws_eqVtab) (ps := [.val true cVtab false, .val true cVtab false]) (rs := [.val false (.one .bool) true]) g_150 mixed Try.func76 (by kernel_rfl) (by kernel_rfl : Try.f76.body = some (codeOf Try.f76))
  rw [e_laws_eqVtab] at h
  exact h
noncomputable def fns_76 : List (FuncId × Fn) := (76, F_laws_eqVtab) :: fns_150
theorem g_76 : Good Try.prog ⟨tis, fns_76⟩ := g_150.cons m_laws_eqVtab
noncomputable def laws_eqBridge (a0 : Bridge) (b1 : Bridge) : Option Bool :=
  cond (a0.1 != b1.1)
    (some false)
    (cond (!(a0.2.1 == b1.2.1))
      (some false)
      ((laws_eqPtS a0.2.2.1 b1.2.2.1).bind fun t19 =>
      cond (!t19)
        (some false)
        ((laws_eqFentS a0.2.2.2.1 b1.2.2.2.1).bind fun t25 =>
        cond (!t25)
          (some false)
          ((laws_eqVtab (a0.2.2.2.2.1, a0.2.2.2.2.2.1) (b1.2.2.2.2.1, b1.2.2.2.2.2.1)).bind fun t31 =>
          cond (!t31)
            (some false)
            (cond (a0.2.2.2.2.2.2.1 != b1.2.2.2.2.2.2.1)
              (some false)
              (cond (a0.2.2.2.2.2.2.2.1 != b1.2.2.2.2.2.2.2.1)
                (some false)
                (cond (a0.2.2.2.2.2.2.2.2.1 != b1.2.2.2.2.2.2.2.2.1)
                  (some false)
                  (cond (a0.2.2.2.2.2.2.2.2.2.1 != b1.2.2.2.2.2.2.2.2.2.1)
                    (some false)
                    (cond (a0.2.2.2.2.2.2.2.2.2.2 != b1.2.2.2.2.2.2.2.2.2.2) (some false) (some true))))))))))
noncomputable def F_laws_eqBridge : Fn := ⟨[.val true cBridge false, .val true cBridge false], [.val false (.one .bool) true], fun a => laws_eqBridge a.1 a.2⟩
def a_laws_eqBridge : List (Nat × LoopAnn) := []
theorem e_laws_eqBridge : fnDen ⟨tis, fns_76⟩ a_laws_eqBridge Try.f17 (codeOf Try.f17) [.val true cBridge false, .val true cBridge false] [.val false (.one .bool) true] = fun a => laws_eqBridge a.1 a.2 := by kernel_rfl
theorem m_laws_eqBridge : Meets Try.prog 17 F_laws_eqBridge := by
  have h := meets_of (ann := a_laws_eqBridge) (ps := [.val true cBridge false, .val true cBridge false]) (rs := [.val false (.one .bool) true]) g_76 mixed Try.func17 (by kernel_rfl) (by kernel_rfl : Try.f17.body = some (codeOf Try.f17))
  rw [e_laws_eqBridge] at h
  exact h
noncomputable def fns_17 : List (FuncId × Fn) := (17, F_laws_eqBridge) :: fns_76
theorem g_17 : Good Try.prog ⟨tis, fns_17⟩ := g_76.cons m_laws_eqBridge
noncomputable def laws_eqBridgeS_l0 (a0 : List Bridge) (b1 : List Bridge) (i5 : Int) : Option (Int ⊕ (Unit ⊕ Bool)) :=
  cond (decide (i5 < (a0.length : Int)))
    ((at? a0 i5).bind fun x19 =>
    (at? b1 i5).bind fun x23 =>
    (laws_eqBridge x19 x23).bind fun t25 =>
    cond (!t25) (some (.inr (.inr false))) (some (.inl (w64 (i5 + 1)))))
    (some (.inr (.inl ())))
noncomputable def laws_eqBridgeS (a0 : List Bridge) (b1 : List Bridge) : Option Bool :=
  cond ((a0.length : Int) != (b1.length : Int))
    (some false)
    ((loop (fun z => laws_eqBridgeS_l0 a0 b1 z) 0).bind (Sum.elim (fun d =>
      some true) (fun r => some r)))
noncomputable def F_laws_eqBridgeS : Fn := ⟨[.val false (.one (.sl cBridge)) false, .val false (.one (.sl cBridge)) false], [.val false (.one .bool) true], fun a => laws_eqBridgeS a.1 a.2⟩
def a_laws_eqBridgeS : List (Nat × LoopAnn) := [(0, ⟨⟨[(5, false, [.dat (.int .i64)])], []⟩,
    ⟨[], []⟩, some ⟨[(4, false, [.dat .bool])], []⟩⟩)]
theorem e_laws_eqBridgeS : fnDen ⟨tis, fns_17⟩ a_laws_eqBridgeS Try.f92 (codeOf Try.f92) [.val false (.one (.sl cBridge)) false, .val false (.one (.sl cBridge)) false] [.val false (.one .bool) true] = fun a => laws_eqBridgeS a.1 a.2 := by kernel_rfl
theorem m_laws_eqBridgeS : Meets Try.prog 92 F_laws_eqBridgeS := by
  have h := meets_of (ann := a_laws_eqBridgeS) (ps := [.val false (.one (.sl cBridge)) false, .val false (.one (.sl cBridge)) false]) (rs := [.val false (.one .bool) true]) g_17 mixed Try.func92 (by kernel_rfl) (by kernel_rfl : Try.f92.body = some (codeOf Try.f92))
  rw [e_laws_eqBridgeS] at h
  exact h
noncomputable def fns_92 : List (FuncId × Fn) := (92, F_laws_eqBridgeS) :: fns_17
theorem g_92 : Good Try.prog ⟨tis, fns_92⟩ := g_17.cons m_laws_eqBridgeS
noncomputable def laws_eqLink (a0 : Link) (b1 : Link) : Option Bool :=
  cond (a0.1 != b1.1)
    (some false)
    (cond (a0.2.1 != b1.2.1)
      (some false)
      (cond (a0.2.2.1 != b1.2.2.1)
        (some false)
        (cond (a0.2.2.2 != b1.2.2.2) (some false) (some true))))
noncomputable def F_laws_eqLink : Fn := ⟨[.val true cLink false, .val true cLink false], [.val false (.one .bool) true], fun a => laws_eqLink a.1 a.2⟩
def a_laws_eqLink : List (Nat × LoopAnn) := []
theorem e_laws_eqLink : fnDen ⟨tis, fns_92⟩ a_laws_eqLink Try.f175 (codeOf Try.f175) [.val true cLink false, .val true cLink false] [.val false (.one .bool) true] = fun a => laws_eqLink a.1 a.2 := by kernel_rfl
theorem m_laws_eqLink : Meets Try.prog 175 F_laws_eqLink := by
  have h := meets_of (ann := a_laws_eqLink) (ps := [.val true cLink false, .val true cLink false]) (rs := [.val false (.one .bool) true]) g_92 mixed Try.func175 (by kernel_rfl) (by kernel_rfl : Try.f175.body = some (codeOf Try.f175))
  rw [e_laws_eqLink] at h
  exact h
noncomputable def fns_175 : List (FuncId × Fn) := (175, F_laws_eqLink) :: fns_92
theorem g_175 : Good Try.prog ⟨tis, fns_175⟩ := g_92.cons m_laws_eqLink
noncomputable def laws_eqLinkS_l0 (a0 : List Link) (b1 : List Link) (i5 : Int) : Option (Int ⊕ (Unit ⊕ Bool)) :=
  cond (decide (i5 < (a0.length : Int)))
    ((at? a0 i5).bind fun x19 =>
    (at? b1 i5).bind fun x23 =>
    (laws_eqLink x19 x23).bind fun t25 =>
    cond (!t25) (some (.inr (.inr false))) (some (.inl (w64 (i5 + 1)))))
    (some (.inr (.inl ())))
noncomputable def laws_eqLinkS (a0 : List Link) (b1 : List Link) : Option Bool :=
  cond ((a0.length : Int) != (b1.length : Int))
    (some false)
    ((loop (fun z => laws_eqLinkS_l0 a0 b1 z) 0).bind (Sum.elim (fun d =>
      some true) (fun r => some r)))
noncomputable def F_laws_eqLinkS : Fn := ⟨[.val false (.one (.sl cLink)) false, .val false (.one (.sl cLink)) false], [.val false (.one .bool) true], fun a => laws_eqLinkS a.1 a.2⟩
def a_laws_eqLinkS : List (Nat × LoopAnn) := [(0, ⟨⟨[(5, false, [.dat (.int .i64)])], []⟩,
    ⟨[], []⟩, some ⟨[(4, false, [.dat .bool])], []⟩⟩)]
theorem e_laws_eqLinkS : fnDen ⟨tis, fns_175⟩ a_laws_eqLinkS Try.f93 (codeOf Try.f93) [.val false (.one (.sl cLink)) false, .val false (.one (.sl cLink)) false] [.val false (.one .bool) true] = fun a => laws_eqLinkS a.1 a.2 := by kernel_rfl
theorem m_laws_eqLinkS : Meets Try.prog 93 F_laws_eqLinkS := by
  have h := meets_of (ann := a_laws_eqLinkS) (ps := [.val false (.one (.sl cLink)) false, .val false (.one (.sl cLink)) false]) (rs := [.val false (.one .bool) true]) g_175 mixed Try.func93 (by kernel_rfl) (by kernel_rfl : Try.f93.body = some (codeOf Try.f93))
  rw [e_laws_eqLinkS] at h
  exact h
noncomputable def fns_93 : List (FuncId × Fn) := (93, F_laws_eqLinkS) :: fns_175
theorem g_93 : Good Try.prog ⟨tis, fns_93⟩ := g_175.cons m_laws_eqLinkS
noncomputable def laws_eqSay (a0 : Say) (b1 : Say) : Option Bool :=
  cond (a0.1 != b1.1)
    (some false)
    (cond (!(a0.2.1 == b1.2.1))
      (some false)
      ((laws_eqVec a0.2.2 b1.2.2).bind fun t19 =>
      cond (!t19) (some false) (some true)))
noncomputable def F_laws_eqSay : Fn := ⟨[.val true cSay false, .val true cSay false], [.val false (.one .bool) true], fun a => laws_eqSay a.1 a.2⟩
def a_laws_eqSay : List (Nat × LoopAnn) := []
theorem e_laws_eqSay : fnDen ⟨tis, fns_93⟩ a_laws_eqSay Try.f176 (codeOf Try.f176) [.val true cSay false, .val true cSay false] [.val false (.one .bool) true] = fun a => laws_eqSay a.1 a.2 := by kernel_rfl
theorem m_laws_eqSay : Meets Try.prog 176 F_laws_eqSay := by
  have h := meets_of (ann := a_laws_eqSay) (ps := [.val true cSay false, .val true cSay false]) (rs := [.val false (.one .bool) true]) g_93 mixed Try.func176 (by kernel_rfl) (by kernel_rfl : Try.f176.body = some (codeOf Try.f176))
  rw [e_laws_eqSay] at h
  exact h
noncomputable def fns_176 : List (FuncId × Fn) := (176, F_laws_eqSay) :: fns_93
theorem g_176 : Good Try.prog ⟨tis, fns_176⟩ := g_93.cons m_laws_eqSay
noncomputable def laws_eqSayS_l0 (a0 : List Say) (b1 : List Say) (i5 : Int) : Option (Int ⊕ (Unit ⊕ Bool)) :=
  cond (decide (i5 < (a0.length : Int)))
    ((at? a0 i5).bind fun x19 =>
    (at? b1 i5).bind fun x23 =>
    (laws_eqSay x19 x23).bind fun t25 =>
    cond (!t25) (some (.inr (.inr false))) (some (.inl (w64 (i5 + 1)))))
    (some (.inr (.inl ())))
noncomputable def laws_eqSayS (a0 : List Say) (b1 : List Say) : Option Bool :=
  cond ((a0.length : Int) != (b1.length : Int))
    (some false)
    ((loop (fun z => laws_eqSayS_l0 a0 b1 z) 0).bind (Sum.elim (fun d =>
      some true) (fun r => some r)))
noncomputable def F_laws_eqSayS : Fn := ⟨[.val false (.one (.sl cSay)) false, .val false (.one (.sl cSay)) false], [.val false (.one .bool) true], fun a => laws_eqSayS a.1 a.2⟩
def a_laws_eqSayS : List (Nat × LoopAnn) := [(0, ⟨⟨[(5, false, [.dat (.int .i64)])], []⟩,
    ⟨[], []⟩, some ⟨[(4, false, [.dat .bool])], []⟩⟩)]
theorem e_laws_eqSayS : fnDen ⟨tis, fns_176⟩ a_laws_eqSayS Try.f94 (codeOf Try.f94) [.val false (.one (.sl cSay)) false, .val false (.one (.sl cSay)) false] [.val false (.one .bool) true] = fun a => laws_eqSayS a.1 a.2 := by kernel_rfl
theorem m_laws_eqSayS : Meets Try.prog 94 F_laws_eqSayS := by
  have h := meets_of (ann := a_laws_eqSayS) (ps := [.val false (.one (.sl cSay)) false, .val false (.one (.sl cSay)) false]) (rs := [.val false (.one .bool) true]) g_176 mixed Try.func94 (by kernel_rfl) (by kernel_rfl : Try.f94.body = some (codeOf Try.f94))
  rw [e_laws_eqSayS] at h
  exact h
noncomputable def fns_94 : List (FuncId × Fn) := (94, F_laws_eqSayS) :: fns_176
theorem g_94 : Good Try.prog ⟨tis, fns_94⟩ := g_176.cons m_laws_eqSayS
noncomputable def laws_eqNet (a0 : Net) (b1 : Net) : Option Bool :=
  (laws_eqBridgeS a0.1 b1.1).bind fun t9 =>
  cond (!t9)
    (some false)
    ((laws_eqLinkS a0.2.1 b1.2.1).bind fun t15 =>
    cond (!t15)
      (some false)
      ((laws_eqSayS a0.2.2 b1.2.2).bind fun t21 =>
      cond (!t21) (some false) (some true)))
noncomputable def F_laws_eqNet : Fn := ⟨[.val true cNet false, .val true cNet false], [.val false (.one .bool) true], fun a => laws_eqNet a.1 a.2⟩
def a_laws_eqNet : List (Nat × LoopAnn) := []
theorem e_laws_eqNet : fnDen ⟨tis, fns_94⟩ a_laws_eqNet Try.f28 (codeOf Try.f28) [.val true cNet false, .val true cNet false] [.val false (.one .bool) true] = fun a => laws_eqNet a.1 a.2 := by kernel_rfl
theorem m_laws_eqNet : Meets Try.prog 28 F_laws_eqNet := by
  have h := meets_of (ann := a_laws_eqNet) (ps := [.val true cNet false, .val true cNet false]) (rs := [.val false (.one .bool) true]) g_94 mixed Try.func28 (by kernel_rfl) (by kernel_rfl : Try.f28.body = some (codeOf Try.f28))
  rw [e_laws_eqNet] at h
  exact h
noncomputable def fns_28 : List (FuncId × Fn) := (28, F_laws_eqNet) :: fns_94
theorem g_28 : Good Try.prog ⟨tis, fns_28⟩ := g_94.cons m_laws_eqNet
noncomputable def spec_l1In (x0 : Int) (least1 : Int) (most2 : Int) : Option Bool :=
  (cond (decide (x0 ≥ least1)) (some (decide (x0 ≤ most2))) (some false)).bind fun t14 =>
  some t14
noncomputable def F_spec_l1In : Fn := ⟨[.val false (.one (.int .i64)) false, .val false (.one (.int .i64)) false, .val false (.one (.int .i64)) false], [.val false (.one .bool) true], fun a => spec_l1In a.1 a.2.1 a.2.2⟩
def a_spec_l1In : List (Nat × LoopAnn) := []
theorem e_spec_l1In : fnDen ⟨tis, fns_28⟩ a_spec_l1In Try.f113 (codeOf Try.f113) [.val false (.one (.int .i64)) false, .val false (.one (.int .i64)) false, .val false (.one (.int .i64)) false] [.val false (.one .bool) true] = fun a => spec_l1In a.1 a.2.1 a.2.2 := by kernel_rfl
theorem m_spec_l1In : Meets Try.prog 113 F_spec_l1In := by
  have h := meets_of (ann := a_spec_l1In) (ps := [.val false (.one (.int .i64)) false, .val false (.one (.int .i64)) false, .val false (.one (.int .i64)) false]) (rs := [.val false (.one .bool) true]) g_28 mixed Try.func113 (by kernel_rfl) (by kernel_rfl : Try.f113.body = some (codeOf Try.f113))
  rw [e_spec_l1In] at h
  exact h
noncomputable def fns_113 : List (FuncId × Fn) := (113, F_spec_l1In) :: fns_28
theorem g_113 : Good Try.prog ⟨tis, fns_113⟩ := g_28.cons m_spec_l1In
noncomputable def spec_l13Up (n0 : Net) (b1 : Int) (p2 : Int) : Option Bool :=
  (spec_l1In b1 0 (w64 ((n0.1.length : Int) - 1))).bind fun t12 =>
  (cond t12
    ((at? n0.1 b1).bind fun x18 =>
    (spec_l1In p2 0 (w64 ((x18.2.2.1.length : Int) - 1))).bind fun t23 =>
    some t23)
    (some false)).bind fun t24 =>
  (cond t24
    ((at? n0.1 b1).bind fun x29 =>
    (at? x29.2.2.1 p2).bind fun x33 =>
    some x33.1)
    (some false)).bind fun t36 =>
  some t36
noncomputable def F_spec_l13Up : Fn := ⟨[.val true cNet false, .val false (.one (.int .i64)) false, .val false (.one (.int .i64)) false], [.val false (.one .bool) true], fun a => spec_l13Up a.1 a.2.1 a.2.2⟩
def a_spec_l13Up : List (Nat × LoopAnn) := []
theorem e_spec_l13Up : fnDen ⟨tis, fns_113⟩ a_spec_l13Up Try.f239 (codeOf Try.f239) [.val true cNet false, .val false (.one (.int .i64)) false, .val false (.one (.int .i64)) false] [.val false (.one .bool) true] = fun a => spec_l13Up a.1 a.2.1 a.2.2 := by kernel_rfl
theorem m_spec_l13Up : Meets Try.prog 239 F_spec_l13Up := by
  have h := meets_of (ann := a_spec_l13Up) (ps := [.val true cNet false, .val false (.one (.int .i64)) false, .val false (.one (.int .i64)) false]) (rs := [.val false (.one .bool) true]) g_113 mixed Try.func239 (by kernel_rfl) (by kernel_rfl : Try.f239.body = some (codeOf Try.f239))
  rw [e_spec_l13Up] at h
  exact h
noncomputable def fns_239 : List (FuncId × Fn) := (239, F_spec_l13Up) :: fns_113
theorem g_239 : Good Try.prog ⟨tis, fns_239⟩ := g_113.cons m_spec_l13Up
noncomputable def spec_LinkUp (n0 : Net) (k1 : Int) : Option Bool :=
  (spec_l1In k1 0 (w64 ((n0.2.1.length : Int) - 1))).bind fun t11 =>
  cond (!t11)
    (some false)
    ((at? n0.2.1 k1).bind fun x16 =>
    (spec_l13Up n0 x16.1 x16.2.1).bind fun t23 =>
    (cond t23
      ((spec_l13Up n0 x16.2.2.1 x16.2.2.2).bind fun t30 =>
      some t30)
      (some false)).bind fun t31 =>
    some t31)
noncomputable def F_spec_LinkUp : Fn := ⟨[.val true cNet false, .val false (.one (.int .i64)) false], [.val false (.one .bool) true], fun a => spec_LinkUp a.1 a.2⟩
def a_spec_LinkUp : List (Nat × LoopAnn) := []
theorem e_spec_LinkUp : fnDen ⟨tis, fns_239⟩ a_spec_LinkUp Try.f177 (codeOf Try.f177) [.val true cNet false, .val false (.one (.int .i64)) false] [.val false (.one .bool) true] = fun a => spec_LinkUp a.1 a.2 := by kernel_rfl
theorem m_spec_LinkUp : Meets Try.prog 177 F_spec_LinkUp := by
  have h := meets_of (ann := a_spec_LinkUp) (ps := [.val true cNet false, .val false (.one (.int .i64)) false]) (rs := [.val false (.one .bool) true]) g_239 mixed Try.func177 (by kernel_rfl) (by kernel_rfl : Try.f177.body = some (codeOf Try.f177))
  rw [e_spec_LinkUp] at h
  exact h
noncomputable def fns_177 : List (FuncId × Fn) := (177, F_spec_LinkUp) :: fns_239
theorem g_177 : Good Try.prog ⟨tis, fns_177⟩ := g_239.cons m_spec_LinkUp
noncomputable def spec_l9Bit (n0 : Int) (port1 : Int) : Option Bool :=
  (spec_l1In port1 0 7).bind fun t6 =>
  (cond t6
    ((shr .i64 n0 (IntKind.u64.wrap (port1))).bind fun t11 =>
    some ((band .i64 t11 1) == 1))
    (some false)).bind fun t14 =>
  some t14
noncomputable def F_spec_l9Bit : Fn := ⟨[.val false (.one (.int .i64)) false, .val false (.one (.int .i64)) false], [.val false (.one .bool) true], fun a => spec_l9Bit a.1 a.2⟩
def a_spec_l9Bit : List (Nat × LoopAnn) := []
theorem e_spec_l9Bit : fnDen ⟨tis, fns_177⟩ a_spec_l9Bit Try.f240 (codeOf Try.f240) [.val false (.one (.int .i64)) false, .val false (.one (.int .i64)) false] [.val false (.one .bool) true] = fun a => spec_l9Bit a.1 a.2 := by kernel_rfl
theorem m_spec_l9Bit : Meets Try.prog 240 F_spec_l9Bit := by
  have h := meets_of (ann := a_spec_l9Bit) (ps := [.val false (.one (.int .i64)) false, .val false (.one (.int .i64)) false]) (rs := [.val false (.one .bool) true]) g_177 mixed Try.func240 (by kernel_rfl) (by kernel_rfl : Try.f240.body = some (codeOf Try.f240))
  rw [e_spec_l9Bit] at h
  exact h
noncomputable def fns_240 : List (FuncId × Fn) := (240, F_spec_l9Bit) :: fns_177
theorem g_240 : Good Try.prog ⟨tis, fns_240⟩ := g_177.cons m_spec_l9Bit
noncomputable def spec_VecOk (v0 : Vec) : Option Bool :=
  (spec_l1In v0.1 1 99).bind fun t5 =>
  (cond t5
    ((spec_l1In v0.2.1 0 100000).bind fun t9 =>
    some t9)
    (some false)).bind fun t10 =>
  (cond t10
    ((spec_l1In v0.2.2.1 0 10).bind fun t14 =>
    some t14)
    (some false)).bind fun t15 =>
  (cond t15
    ((spec_l1In v0.2.2.2.1 1 99).bind fun t19 =>
    some t19)
    (some false)).bind fun t20 =>
  (cond t20
    ((spec_l1In v0.2.2.2.2 0 7).bind fun t24 =>
    some t24)
    (some false)).bind fun t25 =>
  some t25
noncomputable def F_spec_VecOk : Fn := ⟨[.val true cVec false], [.val false (.one .bool) true], fun a => spec_VecOk a⟩
def a_spec_VecOk : List (Nat × LoopAnn) := []
theorem e_spec_VecOk : fnDen ⟨tis, fns_240⟩ a_spec_VecOk Try.f251 (codeOf Try.f251) [.val true cVec false] [.val false (.one .bool) true] = fun a => spec_VecOk a := by kernel_rfl
theorem m_spec_VecOk : Meets Try.prog 251 F_spec_VecOk := by
  have h := meets_of (ann := a_spec_VecOk) (ps := [.val true cVec false]) (rs := [.val false (.one .bool) true]) g_240 mixed Try.func251 (by kernel_rfl) (by kernel_rfl : Try.f251.body = some (codeOf Try.f251))
  rw [e_spec_VecOk] at h
  exact h
noncomputable def fns_251 : List (FuncId × Fn) := (251, F_spec_VecOk) :: fns_240
theorem g_251 : Good Try.prog ⟨tis, fns_251⟩ := g_240.cons m_spec_VecOk
noncomputable def spec_StepVec (v0 : Vec) (cost1 : Int) : Option (Vec × Bool) :=
  (spec_VecOk v0).bind fun t8 =>
  (cond (!t8)
    (some true)
    ((spec_l1In cost1 1 1000).bind fun t12 =>
    some (!t12))).bind fun t14 =>
  cond t14
    (some (v0, false))
    ((spec_VecOk (v0.1, w64 (v0.2.1 + cost1), w64 (v0.2.2.1 + 1), v0.2.2.2.1, v0.2.2.2.2)).bind fun t27 =>
    cond (!t27)
      (some (v0, false))
      (some ((v0.1, w64 (v0.2.1 + cost1), w64 (v0.2.2.1 + 1), v0.2.2.2.1, v0.2.2.2.2), true)))
noncomputable def F_spec_StepVec : Fn := ⟨[.val true cVec false, .val false (.one (.int .i64)) false], [.val true cVec true, .val false (.one .bool) true], fun a => spec_StepVec a.1 a.2⟩
def a_spec_StepVec : List (Nat × LoopAnn) := []
theorem e_spec_StepVec : fnDen ⟨tis, fns_251⟩ a_spec_StepVec Try.f232 (codeOf Try.f232) [.val true cVec false, .val false (.one (.int .i64)) false] [.val true cVec true, .val false (.one .bool) true] = fun a => spec_StepVec a.1 a.2 := by kernel_rfl
theorem m_spec_StepVec : Meets Try.prog 232 F_spec_StepVec := by
  have h := meets_of (ann := a_spec_StepVec) (ps := [.val true cVec false, .val false (.one (.int .i64)) false]) (rs := [.val true cVec true, .val false (.one .bool) true]) g_251 mixed Try.func232 (by kernel_rfl) (by kernel_rfl : Try.f232.body = some (codeOf Try.f232))
  rw [e_spec_StepVec] at h
  exact h
noncomputable def fns_232 : List (FuncId × Fn) := (232, F_spec_StepVec) :: fns_251
theorem g_232 : Good Try.prog ⟨tis, fns_232⟩ := g_251.cons m_spec_StepVec
noncomputable def spec_LessVec (a0 : Vec) (b1 : Vec) : Option Bool :=
  cond (a0.1 != b1.1)
    (some (decide (a0.1 < b1.1)))
    (cond (a0.2.1 != b1.2.1)
      (some (decide (a0.2.1 < b1.2.1)))
      (cond (a0.2.2.2.1 != b1.2.2.2.1)
        (let t4 := decide (a0.2.2.2.1 < b1.2.2.2.1)
        some t4)
        (let t4_1 := decide (a0.2.2.2.2 < b1.2.2.2.2)
        some t4_1)))
noncomputable def F_spec_LessVec : Fn := ⟨[.val true cVec false, .val true cVec false], [.val false (.one .bool) true], fun a => spec_LessVec a.1 a.2⟩
def a_spec_LessVec : List (Nat × LoopAnn) := []
theorem e_spec_LessVec : fnDen ⟨tis, fns_232⟩ a_spec_LessVec Try.f233 (codeOf Try.f233) [.val true cVec false, .val true cVec false] [.val false (.one .bool) true] = fun a => spec_LessVec a.1 a.2 := by kernel_rfl
theorem m_spec_LessVec : Meets Try.prog 233 F_spec_LessVec := by
  have h := meets_of (ann := a_spec_LessVec) (ps := [.val true cVec false, .val true cVec false]) (rs := [.val false (.one .bool) true]) g_232 mixed Try.func233 (by kernel_rfl) (by kernel_rfl : Try.f233.body = some (codeOf Try.f233))
  rw [e_spec_LessVec] at h
  exact h
noncomputable def fns_233 : List (FuncId × Fn) := (233, F_spec_LessVec) :: fns_232
theorem g_233 : Good Try.prog ⟨tis, fns_233⟩ := g_232.cons m_spec_LessVec
noncomputable def spec_BestVec_l0 (p0 : Int) (i1 : List Pt) (t8 : Int) (t9 : Int) (b0 : Int) (b1 : Int) (b2 : Int) (b3 : Int) (b4 : Int) (b0_1 : Int) (b1_1 : Int) (b2_1 : Int) (b3_1 : Int) (b4_1 : Int) : Option ((Int × Int × Int × Int × Int × Int × Int × Int × Int × Int × Int × Int) ⊕ (Int × Int × Int × Int × Int × Int × Int × Int × Int × Int × Int)) :=
  cond (decide (t9 < (i1.length : Int)))
    ((at? i1 t9).bind fun x24 =>
    (cond (!x24.1)
      (some true)
      ((at? i1 t9).bind fun x31 =>
      some (!x31.2.2.1))).bind fun t35 =>
    cond t35
      (some (.inl (t8, w64 (t9 + 1), b0, b1, b2, b3, b4, b0_1, b1_1, b2_1, b3_1, b4_1)))
      ((at? i1 t9).bind fun x39 =>
      (at? i1 t9).bind fun x44 =>
      (spec_StepVec x39.2.2.2 x44.2.1).bind fun t47 =>
      (cond t47.2 (some (decide (t47.1.1 < p0))) (some false)).bind fun t56 =>
      (cond t56
        ((cond (decide (t8 < 0))
          (some true)
          ((spec_LessVec t47.1 (b0_1, b1_1, b2_1, b3_1, b4_1)).bind fun t63 =>
          some t63)).bind fun t64 =>
        some t64)
        (some false)).bind fun t65 =>
      cond t65
        (some (.inl (t9, w64 (t9 + 1), t47.1.1, t47.1.2.1, t47.1.2.2.1, p0, 0, t47.1.1, t47.1.2.1, t47.1.2.2.1, t47.1.2.2.2.1, t47.1.2.2.2.2)))
        (some (.inl (t8, w64 (t9 + 1), b0, b1, b2, b3, b4, b0_1, b1_1, b2_1, b3_1, b4_1)))))
    (some (.inr (t8, b0, b1, b2, b3, b4, b0_1, b1_1, b2_1, b3_1, b4_1)))
noncomputable def spec_BestVec (p0 : Int) (i1 : List Pt) : Option (Vec × Int) :=
  (loop (fun z => spec_BestVec_l0 p0 i1 z.1 z.2.1 z.2.2.1 z.2.2.2.1 z.2.2.2.2.1 z.2.2.2.2.2.1 z.2.2.2.2.2.2.1 z.2.2.2.2.2.2.2.1 z.2.2.2.2.2.2.2.2.1 z.2.2.2.2.2.2.2.2.2.1 z.2.2.2.2.2.2.2.2.2.2.1 z.2.2.2.2.2.2.2.2.2.2.2) ((-1), 0, p0, 0, 0, p0, 0, 0, 0, 0, 0, 0)).bind fun d =>
  some ((d.2.1, d.2.2.1, d.2.2.2.1, d.2.2.2.2.1, d.2.2.2.2.2.1), d.1)
noncomputable def F_spec_BestVec : Fn := ⟨[.val false (.one (.int .i64)) false, .val false (.one (.sl cPt)) false], [.val true cVec true, .val false (.one (.int .i64)) true], fun a => spec_BestVec a.1 a.2⟩
def a_spec_BestVec : List (Nat × LoopAnn) := [(0, ⟨⟨[(8, false, [.dat (.int .i64)]), (9, false, [.dat (.int .i64)]), (29, false, [.undef]), (30, false, [.undef]), (31, false, [.undef]), (32, false, [.undef]), (33, false, [.undef]), (34, false, [.undef]), (52, false, [.undef]), (53, false, [.undef]), (54, false, [.undef]), (55, false, [.undef]), (58, false, [.undef]), (59, false, [.undef]), (60, false, [.undef]), (61, false, [.undef]), (62, false, [.undef]), (63, false, [.undef]), (64, false, [.undef])], [(266240, .box [.dat (.int .i64), .dat (.int .i64), .dat (.int .i64), .dat (.int .i64), .dat (.int .i64)]), (526336, .box [.dat (.int .i64), .dat (.int .i64), .dat (.int .i64), .dat (.int .i64), .dat (.int .i64)])]⟩,
    ⟨[(8, false, [.dat (.int .i64)])], [(266240, .box [.dat (.int .i64), .dat (.int .i64), .dat (.int .i64), .dat (.int .i64), .dat (.int .i64)]), (526336, .box [.dat (.int .i64), .dat (.int .i64), .dat (.int .i64), .dat (.int .i64), .dat (.int .i64)])]⟩, none⟩)]
theorem e_spec_BestVec : fnDen ⟨tis, fns_233⟩ a_spec_BestVec Try.f167 (codeOf Try.f167) [.val false (.one (.int .i64)) false, .val false (.one (.sl cPt)) false] [.val true cVec true, .val false (.one (.int .i64)) true] = fun a => spec_BestVec a.1 a.2 := by kernel_rfl
theorem m_spec_BestVec : Meets Try.prog 167 F_spec_BestVec := by
  have h := meets_of (ann := a_spec_BestVec) (ps := [.val false (.one (.int .i64)) false, .val false (.one (.sl cPt)) false]) (rs := [.val true cVec true, .val false (.one (.int .i64)) true]) g_233 mixed Try.func167 (by kernel_rfl) (by kernel_rfl : Try.f167.body = some (codeOf Try.f167))
  rw [e_spec_BestVec] at h
  exact h
noncomputable def fns_167 : List (FuncId × Fn) := (167, F_spec_BestVec) :: fns_233
theorem g_167 : Good Try.prog ⟨tis, fns_167⟩ := g_233.cons m_spec_BestVec
noncomputable def spec_SayVec (id0 : Int) (l1 : List Pt) (port2 : Int) : Option Vec :=
  (spec_BestVec id0 l1).bind fun t12 =>
  some (t12.1.1, t12.1.2.1, t12.1.2.2.1, t12.1.2.2.2.1, port2)
noncomputable def F_spec_SayVec : Fn := ⟨[.val false (.one (.int .i64)) false, .val false (.one (.sl cPt)) false, .val false (.one (.int .i64)) false], [.val true cVec true], fun a => spec_SayVec a.1 a.2.1 a.2.2⟩
def a_spec_SayVec : List (Nat × LoopAnn) := []
theorem e_spec_SayVec : fnDen ⟨tis, fns_167⟩ a_spec_SayVec Try.f263 (codeOf Try.f263) [.val false (.one (.int .i64)) false, .val false (.one (.sl cPt)) false, .val false (.one (.int .i64)) false] [.val true cVec true] = fun a => spec_SayVec a.1 a.2.1 a.2.2 := by kernel_rfl
theorem m_spec_SayVec : Meets Try.prog 263 F_spec_SayVec := by
  have h := meets_of (ann := a_spec_SayVec) (ps := [.val false (.one (.int .i64)) false, .val false (.one (.sl cPt)) false, .val false (.one (.int .i64)) false]) (rs := [.val true cVec true]) g_167 mixed Try.func263 (by kernel_rfl) (by kernel_rfl : Try.f263.body = some (codeOf Try.f263))
  rw [e_spec_SayVec] at h
  exact h
noncomputable def fns_263 : List (FuncId × Fn) := (263, F_spec_SayVec) :: fns_167
theorem g_263 : Good Try.prog ⟨tis, fns_263⟩ := g_167.cons m_spec_SayVec
noncomputable def spec_RoleOf (id0 : Int) (l1 : List Pt) (port2 : Int) : Option Int :=
  (spec_l1In port2 0 (w64 ((l1.length : Int) - 1))).bind fun t13 =>
  (cond (!t13)
    (some true)
    ((at? l1 port2).bind fun x18 =>
    some (!x18.1))).bind fun t22 =>
  cond t22
    (some 4)
    ((spec_BestVec id0 l1).bind fun t26 =>
    cond (t26.2 == port2)
      (some 1)
      ((at? l1 port2).bind fun x36 =>
      (cond (!x36.2.2.1)
        (some true)
        ((spec_SayVec id0 l1 port2).bind fun t44 =>
        (at? l1 port2).bind fun x47 =>
        (spec_LessVec t44 x47.2.2.2).bind fun t50 =>
        some t50)).bind fun t51 =>
      cond t51 (some 2) (some 3)))
noncomputable def F_spec_RoleOf : Fn := ⟨[.val false (.one (.int .i64)) false, .val false (.one (.sl cPt)) false, .val false (.one (.int .i64)) false], [.val false (.one (.int .i64)) true], fun a => spec_RoleOf a.1 a.2.1 a.2.2⟩
def a_spec_RoleOf : List (Nat × LoopAnn) := []
theorem e_spec_RoleOf : fnDen ⟨tis, fns_263⟩ a_spec_RoleOf Try.f208 (codeOf Try.f208) [.val false (.one (.int .i64)) false, .val false (.one (.sl cPt)) false, .val false (.one (.int .i64)) false] [.val false (.one (.int .i64)) true] = fun a => spec_RoleOf a.1 a.2.1 a.2.2 := by kernel_rfl
theorem m_spec_RoleOf : Meets Try.prog 208 F_spec_RoleOf := by
  have h := meets_of (ann := a_spec_RoleOf) (ps := [.val false (.one (.int .i64)) false, .val false (.one (.sl cPt)) false, .val false (.one (.int .i64)) false]) (rs := [.val false (.one (.int .i64)) true]) g_263 mixed Try.func208 (by kernel_rfl) (by kernel_rfl : Try.f208.body = some (codeOf Try.f208))
  rw [e_spec_RoleOf] at h
  exact h
noncomputable def fns_208 : List (FuncId × Fn) := (208, F_spec_RoleOf) :: fns_263
theorem g_208 : Good Try.prog ⟨tis, fns_208⟩ := g_263.cons m_spec_RoleOf
noncomputable def spec_Sends_l0 (id0 : Int) (l1 : List Pt) (n5 : Int) (i6 : Int) : Option ((Int × Int) ⊕ Int) :=
  (cond (decide (i6 < (l1.length : Int))) (some (decide (i6 < 6))) (some false)).bind fun t14 =>
  cond t14
    ((spec_RoleOf id0 l1 i6).bind fun t20 =>
    cond (decide (t20 ≤ 2))
      ((shl .i64 1 (IntKind.u64.wrap (i6))).bind fun t25 =>
      some (.inl (bor .i64 n5 t25, w64 (i6 + 1))))
      (some (.inl (n5, w64 (i6 + 1)))))
    (some (.inr n5))
noncomputable def spec_Sends (id0 : Int) (l1 : List Pt) : Option Int :=
  (loop (fun z => spec_Sends_l0 id0 l1 z.1 z.2) (0, 0)).bind fun d =>
  some d
noncomputable def F_spec_Sends : Fn := ⟨[.val false (.one (.int .i64)) false, .val false (.one (.sl cPt)) false], [.val false (.one (.int .i64)) true], fun a => spec_Sends a.1 a.2⟩
def a_spec_Sends : List (Nat × LoopAnn) := [(0, ⟨⟨[(5, false, [.dat (.int .i64)]), (6, false, [.dat (.int .i64)]), (12, false, [.undef]), (13, false, [.undef])], []⟩,
    ⟨[(5, false, [.dat (.int .i64)])], []⟩, none⟩)]
theorem e_spec_Sends : fnDen ⟨tis, fns_208⟩ a_spec_Sends Try.f241 (codeOf Try.f241) [.val false (.one (.int .i64)) false, .val false (.one (.sl cPt)) false] [.val false (.one (.int .i64)) true] = fun a => spec_Sends a.1 a.2 := by kernel_rfl
theorem m_spec_Sends : Meets Try.prog 241 F_spec_Sends := by
  have h := meets_of (ann := a_spec_Sends) (ps := [.val false (.one (.int .i64)) false, .val false (.one (.sl cPt)) false]) (rs := [.val false (.one (.int .i64)) true]) g_208 mixed Try.func241 (by kernel_rfl) (by kernel_rfl : Try.f241.body = some (codeOf Try.f241))
  rw [e_spec_Sends] at h
  exact h
noncomputable def fns_241 : List (FuncId × Fn) := (241, F_spec_Sends) :: fns_208
theorem g_241 : Good Try.prog ⟨tis, fns_241⟩ := g_208.cons m_spec_Sends
noncomputable def spec_l15Sends (n0 : Net) (b1 : Int) (p2 : Int) : Option Bool :=
  (at? n0.1 b1).bind fun x10 =>
  (at? n0.1 b1).bind fun x16 =>
  (spec_Sends x10.1 x16.2.2.1).bind fun t19 =>
  (spec_l9Bit t19 p2).bind fun t21 =>
  some t21
noncomputable def F_spec_l15Sends : Fn := ⟨[.val true cNet false, .val false (.one (.int .i64)) false, .val false (.one (.int .i64)) false], [.val false (.one .bool) true], fun a => spec_l15Sends a.1 a.2.1 a.2.2⟩
def a_spec_l15Sends : List (Nat × LoopAnn) := []
theorem e_spec_l15Sends : fnDen ⟨tis, fns_241⟩ a_spec_l15Sends Try.f178 (codeOf Try.f178) [.val true cNet false, .val false (.one (.int .i64)) false, .val false (.one (.int .i64)) false] [.val false (.one .bool) true] = fun a => spec_l15Sends a.1 a.2.1 a.2.2 := by kernel_rfl
theorem m_spec_l15Sends : Meets Try.prog 178 F_spec_l15Sends := by
  have h := meets_of (ann := a_spec_l15Sends) (ps := [.val true cNet false, .val false (.one (.int .i64)) false, .val false (.one (.int .i64)) false]) (rs := [.val false (.one .bool) true]) g_241 mixed Try.func178 (by kernel_rfl) (by kernel_rfl : Try.f178.body = some (codeOf Try.f178))
  rw [e_spec_l15Sends] at h
  exact h
noncomputable def fns_178 : List (FuncId × Fn) := (178, F_spec_l15Sends) :: fns_241
theorem g_178 : Good Try.prog ⟨tis, fns_178⟩ := g_241.cons m_spec_l15Sends
noncomputable def spec_Live_l0 (n0 : Net) (i4 : Int) (out3 : List Int) : Option ((Int × List Int) ⊕ (List Int)) :=
  cond (decide (i4 < (n0.2.1.length : Int)))
    ((at? n0.2.1 i4).bind fun x17 =>
    (spec_LinkUp n0 i4).bind fun t21 =>
    (cond t21
      ((spec_l15Sends n0 x17.1 x17.2.1).bind fun t28 =>
      some t28)
      (some false)).bind fun t29 =>
    (cond t29
      ((spec_l15Sends n0 x17.2.2.1 x17.2.2.2).bind fun t36 =>
      some t36)
      (some false)).bind fun t37 =>
    cond t37
      ((app out3 [i4]).bind fun zs41 =>
      some (.inl (w64 (i4 + 1), zs41)))
      (some (.inl (w64 (i4 + 1), out3))))
    (some (.inr out3))
noncomputable def spec_Live (n0 : Net) : Option (List Int) :=
  (loop (fun z => spec_Live_l0 n0 z.1 z.2) (0, ([] : List Int))).bind fun d =>
  some d
noncomputable def F_spec_Live : Fn := ⟨[.val true cNet false], [.val false (.one (.sl (.one (.int .i64)))) true], fun a => spec_Live a⟩
def a_spec_Live : List (Nat × LoopAnn) := [(0, ⟨⟨[(3, false, [.own 1000000000]), (4, false, [.dat (.int .i64)]), (23, false, [.undef]), (24, false, [.undef]), (25, false, [.undef]), (26, false, [.undef]), (27, false, [.undef]), (28, false, [.undef]), (31, false, [.undef]), (32, false, [.undef]), (33, false, [.undef]), (34, false, [.undef]), (35, false, [.undef]), (36, false, [.undef])], [(1000000000, .root (.one (.int .i64)) true)]⟩,
    ⟨[(3, false, [.own 1000000300])], [(1000000300, .root (.one (.int .i64)) true)]⟩, none⟩)]
theorem e_spec_Live : fnDen ⟨tis, fns_178⟩ a_spec_Live Try.f95 (codeOf Try.f95) [.val true cNet false] [.val false (.one (.sl (.one (.int .i64)))) true] = fun a => spec_Live a := by kernel_rfl
theorem m_spec_Live : Meets Try.prog 95 F_spec_Live := by
  have h := meets_of (ann := a_spec_Live) (ps := [.val true cNet false]) (rs := [.val false (.one (.sl (.one (.int .i64)))) true]) g_178 mixed Try.func95 (by kernel_rfl) (by kernel_rfl : Try.f95.body = some (codeOf Try.f95))
  rw [e_spec_Live] at h
  exact h
noncomputable def fns_95 : List (FuncId × Fn) := (95, F_spec_Live) :: fns_178
theorem g_95 : Good Try.prog ⟨tis, fns_95⟩ := g_178.cons m_spec_Live
noncomputable def spec_UpLinks_l0 (n0 : Net) (i4 : Int) (out3 : List Int) : Option ((Int × List Int) ⊕ (List Int)) :=
  cond (decide (i4 < (n0.2.1.length : Int)))
    ((spec_LinkUp n0 i4).bind fun t15 =>
    cond t15
      ((app out3 [i4]).bind fun zs19 =>
      some (.inl (w64 (i4 + 1), zs19)))
      (some (.inl (w64 (i4 + 1), out3))))
    (some (.inr out3))
noncomputable def spec_UpLinks (n0 : Net) : Option (List Int) :=
  (loop (fun z => spec_UpLinks_l0 n0 z.1 z.2) (0, ([] : List Int))).bind fun d =>
  some d
noncomputable def F_spec_UpLinks : Fn := ⟨[.val true cNet false], [.val false (.one (.sl (.one (.int .i64)))) true], fun a => spec_UpLinks a⟩
def a_spec_UpLinks : List (Nat × LoopAnn) := [(0, ⟨⟨[(3, false, [.own 1000000000]), (4, false, [.dat (.int .i64)])], [(1000000000, .root (.one (.int .i64)) true)]⟩,
    ⟨[(3, false, [.own 1000000300])], [(1000000300, .root (.one (.int .i64)) true)]⟩, none⟩)]
theorem e_spec_UpLinks : fnDen ⟨tis, fns_95⟩ a_spec_UpLinks Try.f96 (codeOf Try.f96) [.val true cNet false] [.val false (.one (.sl (.one (.int .i64)))) true] = fun a => spec_UpLinks a := by kernel_rfl
theorem m_spec_UpLinks : Meets Try.prog 96 F_spec_UpLinks := by
  have h := meets_of (ann := a_spec_UpLinks) (ps := [.val true cNet false]) (rs := [.val false (.one (.sl (.one (.int .i64)))) true]) g_95 mixed Try.func96 (by kernel_rfl) (by kernel_rfl : Try.f96.body = some (codeOf Try.f96))
  rw [e_spec_UpLinks] at h
  exact h
noncomputable def fns_96 : List (FuncId × Fn) := (96, F_spec_UpLinks) :: fns_95
theorem g_96 : Good Try.prog ⟨tis, fns_96⟩ := g_95.cons m_spec_UpLinks
noncomputable def spec_SameOid_l0 (a0 : List Int) (b1 : List Int) (i5 : Int) : Option (Int ⊕ (Unit ⊕ Bool)) :=
  cond (decide (i5 < (a0.length : Int)))
    ((at? a0 i5).bind fun x19 =>
    (at? b1 i5).bind fun x23 =>
    cond (x19 != x23) (some (.inr (.inr false))) (some (.inl (w64 (i5 + 1)))))
    (some (.inr (.inl ())))
noncomputable def spec_SameOid (a0 : List Int) (b1 : List Int) : Option Bool :=
  cond ((a0.length : Int) != (b1.length : Int))
    (some false)
    ((loop (fun z => spec_SameOid_l0 a0 b1 z) 0).bind (Sum.elim (fun d =>
      some true) (fun r => some r)))
noncomputable def F_spec_SameOid : Fn := ⟨[.val false (.one (.sl (.one (.int .i64)))) false, .val false (.one (.sl (.one (.int .i64)))) false], [.val false (.one .bool) true], fun a => spec_SameOid a.1 a.2⟩
def a_spec_SameOid : List (Nat × LoopAnn) := [(0, ⟨⟨[(5, false, [.dat (.int .i64)])], []⟩,
    ⟨[], []⟩, some ⟨[(4, false, [.dat .bool])], []⟩⟩)]
theorem e_spec_SameOid : fnDen ⟨tis, fns_96⟩ a_spec_SameOid Try.f97 (codeOf Try.f97) [.val false (.one (.sl (.one (.int .i64)))) false, .val false (.one (.sl (.one (.int .i64)))) false] [.val false (.one .bool) true] = fun a => spec_SameOid a.1 a.2 := by kernel_rfl
theorem m_spec_SameOid : Meets Try.prog 97 F_spec_SameOid := by
  have h := meets_of (ann := a_spec_SameOid) (ps := [.val false (.one (.sl (.one (.int .i64)))) false, .val false (.one (.sl (.one (.int .i64)))) false]) (rs := [.val false (.one .bool) true]) g_96 mixed Try.func97 (by kernel_rfl) (by kernel_rfl : Try.f97.body = some (codeOf Try.f97))
  rw [e_spec_SameOid] at h
  exact h
noncomputable def fns_97 : List (FuncId × Fn) := (97, F_spec_SameOid) :: fns_96
theorem g_97 : Good Try.prog ⟨tis, fns_97⟩ := g_96.cons m_spec_SameOid
noncomputable def spec_l15Has_l0 (l0 : List Int) (n1 : Int) (i5 : Int) : Option (Int ⊕ (Unit ⊕ Bool)) :=
  cond (decide (i5 < (l0.length : Int)))
    ((at? l0 i5).bind fun x14 =>
    cond (x14 == n1) (some (.inr (.inr true))) (some (.inl (w64 (i5 + 1)))))
    (some (.inr (.inl ())))
noncomputable def spec_l15Has (l0 : List Int) (n1 : Int) : Option Bool :=
  (loop (fun z => spec_l15Has_l0 l0 n1 z) 0).bind (Sum.elim (fun d =>
    some false) (fun r => some r))
noncomputable def F_spec_l15Has : Fn := ⟨[.val false (.one (.sl (.one (.int .i64)))) false, .val false (.one (.int .i64)) false], [.val false (.one .bool) true], fun a => spec_l15Has a.1 a.2⟩
def a_spec_l15Has : List (Nat × LoopAnn) := [(0, ⟨⟨[(5, false, [.dat (.int .i64)])], []⟩,
    ⟨[], []⟩, some ⟨[(4, false, [.dat .bool])], []⟩⟩)]
theorem e_spec_l15Has : fnDen ⟨tis, fns_97⟩ a_spec_l15Has Try.f180 (codeOf Try.f180) [.val false (.one (.sl (.one (.int .i64)))) false, .val false (.one (.int .i64)) false] [.val false (.one .bool) true] = fun a => spec_l15Has a.1 a.2 := by kernel_rfl
theorem m_spec_l15Has : Meets Try.prog 180 F_spec_l15Has := by
  have h := meets_of (ann := a_spec_l15Has) (ps := [.val false (.one (.sl (.one (.int .i64)))) false, .val false (.one (.int .i64)) false]) (rs := [.val false (.one .bool) true]) g_97 mixed Try.func180 (by kernel_rfl) (by kernel_rfl : Try.f180.body = some (codeOf Try.f180))
  rw [e_spec_l15Has] at h
  exact h
noncomputable def fns_180 : List (FuncId × Fn) := (180, F_spec_l15Has) :: fns_97
theorem g_180 : Good Try.prog ⟨tis, fns_180⟩ := g_97.cons m_spec_l15Has
noncomputable def spec_l15More_l0 (p0 : Net) (i1 : List Int) (t8 : Int) (t7 : List Int) : Option ((Int × List Int) ⊕ (List Int)) :=
  cond (decide (t8 < (i1.length : Int)))
    ((at? i1 t8).bind fun x21 =>
    (spec_l1In x21 0 (w64 ((p0.2.1.length : Int) - 1))).bind fun t27 =>
    cond (!t27)
      (some (.inl (w64 (t8 + 1), t7)))
      ((at? i1 t8).bind fun x33 =>
      (at? p0.2.1 x33).bind fun x35 =>
      (spec_l15Has t7 x35.1).bind fun t40 =>
      (cond t40
        ((spec_l15Has t7 x35.2.2.1).bind fun t45 =>
        some (!t45))
        (some false)).bind fun t47 =>
      (cond t47
        ((spec_l1In x35.2.2.1 0 (w64 ((p0.1.length : Int) - 1))).bind fun t55 =>
        some t55)
        (some false)).bind fun t56 =>
      cond t56
        ((app t7 [x35.2.2.1]).bind fun zs61 =>
        (spec_l15Has zs61 x35.2.2.1).bind fun t65 =>
        (cond t65
          ((spec_l15Has zs61 x35.1).bind fun t70 =>
          some (!t70))
          (some false)).bind fun t72 =>
        (cond t72
          ((spec_l1In x35.1 0 (w64 ((p0.1.length : Int) - 1))).bind fun t80 =>
          some t80)
          (some false)).bind fun t81 =>
        cond t81
          ((app zs61 [x35.1]).bind fun zs86 =>
          some (.inl (w64 (t8 + 1), zs86)))
          (some (.inl (w64 (t8 + 1), zs61))))
        ((spec_l15Has t7 x35.2.2.1).bind fun t65_1 =>
        (cond t65_1
          ((spec_l15Has t7 x35.1).bind fun t70_1 =>
          some (!t70_1))
          (some false)).bind fun t72_1 =>
        (cond t72_1
          ((spec_l1In x35.1 0 (w64 ((p0.1.length : Int) - 1))).bind fun t80_1 =>
          some t80_1)
          (some false)).bind fun t81_1 =>
        cond t81_1
          ((app t7 [x35.1]).bind fun zs86_1 =>
          some (.inl (w64 (t8 + 1), zs86_1)))
          (some (.inl (w64 (t8 + 1), t7))))))
    (some (.inr t7))
noncomputable def spec_l15More (p0 : Net) (i1 : List Int) (a2 : List Int) : Option (List Int) :=
  (app ([] : List Int) a2).bind fun zs12 =>
  (loop (fun z => spec_l15More_l0 p0 i1 z.1 z.2) (0, zs12)).bind fun d =>
  some d
noncomputable def F_spec_l15More : Fn := ⟨[.val true cNet false, .val false (.one (.sl (.one (.int .i64)))) false, .val false (.one (.sl (.one (.int .i64)))) false], [.val false (.one (.sl (.one (.int .i64)))) true], fun a => spec_l15More a.1 a.2.1 a.2.2⟩
def a_spec_l15More : List (Nat × LoopAnn) := [(0, ⟨⟨[(7, false, [.own 1000000000]), (8, false, [.dat (.int .i64)]), (42, false, [.undef]), (43, false, [.undef]), (44, false, [.undef]), (45, false, [.undef]), (46, false, [.undef]), (49, false, [.undef]), (50, false, [.undef]), (51, false, [.undef]), (52, false, [.undef]), (53, false, [.undef]), (54, false, [.undef]), (55, false, [.undef]), (67, false, [.undef]), (68, false, [.undef]), (69, false, [.undef]), (70, false, [.undef]), (71, false, [.undef]), (74, false, [.undef]), (75, false, [.undef]), (76, false, [.undef]), (77, false, [.undef]), (78, false, [.undef]), (79, false, [.undef]), (80, false, [.undef])], [(1000000000, .root (.one (.int .i64)) true)]⟩,
    ⟨[(7, false, [.own 1000000300])], [(1000000300, .root (.one (.int .i64)) true)]⟩, none⟩)]
theorem e_spec_l15More : fnDen ⟨tis, fns_180⟩ a_spec_l15More Try.f179 (codeOf Try.f179) [.val true cNet false, .val false (.one (.sl (.one (.int .i64)))) false, .val false (.one (.sl (.one (.int .i64)))) false] [.val false (.one (.sl (.one (.int .i64)))) true] = fun a => spec_l15More a.1 a.2.1 a.2.2 := by kernel_rfl
theorem m_spec_l15More : Meets Try.prog 179 F_spec_l15More := by
  have h := meets_of (ann := a_spec_l15More) (ps := [.val true cNet false, .val false (.one (.sl (.one (.int .i64)))) false, .val false (.one (.sl (.one (.int .i64)))) false]) (rs := [.val false (.one (.sl (.one (.int .i64)))) true]) g_180 mixed Try.func179 (by kernel_rfl) (by kernel_rfl : Try.f179.body = some (codeOf Try.f179))
  rw [e_spec_l15More] at h
  exact h
noncomputable def fns_179 : List (FuncId × Fn) := (179, F_spec_l15More) :: fns_180
theorem g_179 : Good Try.prog ⟨tis, fns_179⟩ := g_180.cons m_spec_l15More
noncomputable def spec_Joined_l0 (n0 : Net) (l2 : List Int) (i8 : Int) (x7 : List Int) : Option ((Int × List Int) ⊕ (List Int)) :=
  cond (decide (i8 < (n0.1.length : Int)))
    ((spec_l15More n0 l2 x7).bind fun t31 =>
    some (.inl (w64 (i8 + 1), t31)))
    (some (.inr x7))
noncomputable def spec_Joined_l2 (n0 : Net) (d : List Int) (i10 : Int) (out9 : List Int) : Option ((Int × List Int) ⊕ (List Int)) :=
  cond (decide (i10 < (n0.1.length : Int)))
    ((spec_l15Has d i10).bind fun t42 =>
    cond t42
      ((app out9 [i10]).bind fun zs46 =>
      some (.inl (w64 (i10 + 1), zs46)))
      (some (.inl (w64 (i10 + 1), out9))))
    (some (.inr out9))
noncomputable def spec_Joined (n0 : Net) (b1 : Int) (l2 : List Int) : Option (List Int) :=
  (spec_l1In b1 0 (w64 ((n0.1.length : Int) - 1))).bind fun t16 =>
  cond (!t16)
    (some ([] : List Int))
    ((loop (fun z => spec_Joined_l0 n0 l2 z.1 z.2) (0, [b1])).bind fun d =>
    (loop (fun z => spec_Joined_l2 n0 d z.1 z.2) (0, ([] : List Int))).bind fun d_1 =>
    some d_1)
noncomputable def F_spec_Joined : Fn := ⟨[.val true cNet false, .val false (.one (.int .i64)) false, .val false (.one (.sl (.one (.int .i64)))) false], [.val false (.one (.sl (.one (.int .i64)))) true], fun a => spec_Joined a.1 a.2.1 a.2.2⟩
def a_spec_Joined : List (Nat × LoopAnn) := [(0, ⟨⟨[(7, false, [.own 1000000000]), (8, false, [.dat (.int .i64)])], [(1000000000, .root (.one (.int .i64)) true)]⟩,
    ⟨[(7, false, [.own 1000000300])], [(1000000300, .root (.one (.int .i64)) true)]⟩, none⟩),
  (2, ⟨⟨[(9, false, [.own 1000002000]), (10, false, [.dat (.int .i64)])], [(1000002000, .root (.one (.int .i64)) true)]⟩,
    ⟨[(9, false, [.own 1000002300])], [(1000002300, .root (.one (.int .i64)) true)]⟩, none⟩)]
theorem e_spec_Joined : fnDen ⟨tis, fns_179⟩ a_spec_Joined Try.f98 (codeOf Try.f98) [.val true cNet false, .val false (.one (.int .i64)) false, .val false (.one (.sl (.one (.int .i64)))) false] [.val false (.one (.sl (.one (.int .i64)))) true] = fun a => spec_Joined a.1 a.2.1 a.2.2 := by kernel_rfl
theorem m_spec_Joined : Meets Try.prog 98 F_spec_Joined := by
  have h := meets_of (ann := a_spec_Joined) (ps := [.val true cNet false, .val false (.one (.int .i64)) false, .val false (.one (.sl (.one (.int .i64)))) false]) (rs := [.val false (.one (.sl (.one (.int .i64)))) true]) g_179 mixed Try.func98 (by kernel_rfl) (by kernel_rfl : Try.f98.body = some (codeOf Try.f98))
  rw [e_spec_Joined] at h
  exact h
noncomputable def fns_98 : List (FuncId × Fn) := (98, F_spec_Joined) :: fns_179
theorem g_98 : Good Try.prog ⟨tis, fns_98⟩ := g_179.cons m_spec_Joined
noncomputable def spec_Loops_l0 (n0 : Net) (l1 : List Int) (i5 : Int) : Option (Int ⊕ (Unit ⊕ Bool)) :=
  cond (decide (i5 < (l1.length : Int)))
    ((at? l1 i5).bind fun x15 =>
    (spec_l1In x15 0 (w64 ((n0.2.1.length : Int) - 1))).bind fun t21 =>
    cond (!t21)
      (some (.inl (w64 (i5 + 1))))
      ((cut l1 0 i5).bind fun t26 =>
      (app ([] : List Int) t26).bind fun zs27 =>
      (cut l1 (w64 (i5 + 1)) (l1.length : Int)).bind fun t31 =>
      (app zs27 t31).bind fun zs32 =>
      (at? l1 i5).bind fun x38 =>
      (at? n0.2.1 x38).bind fun x40 =>
      (spec_Joined n0 x40.1 zs32).bind fun t44 =>
      (at? l1 i5).bind fun x49 =>
      (at? n0.2.1 x49).bind fun x51 =>
      (spec_l15Has t44 x51.2.2.1).bind fun t54 =>
      cond t54 (some (.inr (.inr true))) (some (.inl (w64 (i5 + 1))))))
    (some (.inr (.inl ())))
noncomputable def spec_Loops (n0 : Net) (l1 : List Int) : Option Bool :=
  (loop (fun z => spec_Loops_l0 n0 l1 z) 0).bind (Sum.elim (fun d =>
    some false) (fun r => some r))
noncomputable def F_spec_Loops : Fn := ⟨[.val true cNet false, .val false (.one (.sl (.one (.int .i64)))) false], [.val false (.one .bool) true], fun a => spec_Loops a.1 a.2⟩
def a_spec_Loops : List (Nat × LoopAnn) := [(0, ⟨⟨[(5, false, [.dat (.int .i64)])], []⟩,
    ⟨[], []⟩, some ⟨[(4, false, [.dat .bool])], []⟩⟩)]
theorem e_spec_Loops : fnDen ⟨tis, fns_98⟩ a_spec_Loops Try.f99 (codeOf Try.f99) [.val true cNet false, .val false (.one (.sl (.one (.int .i64)))) false] [.val false (.one .bool) true] = fun a => spec_Loops a.1 a.2 := by kernel_rfl
theorem m_spec_Loops : Meets Try.prog 99 F_spec_Loops := by
  have h := meets_of (ann := a_spec_Loops) (ps := [.val true cNet false, .val false (.one (.sl (.one (.int .i64)))) false]) (rs := [.val false (.one .bool) true]) g_98 mixed Try.func99 (by kernel_rfl) (by kernel_rfl : Try.f99.body = some (codeOf Try.f99))
  rw [e_spec_Loops] at h
  exact h
noncomputable def fns_99 : List (FuncId × Fn) := (99, F_spec_Loops) :: fns_98
theorem g_99 : Good Try.prog ⟨tis, fns_99⟩ := g_98.cons m_spec_Loops
noncomputable def spec_OneTree_l0 (n0 : Net) (t7 : List Int) (t9 : List Int) (i5 : Int) : Option (Int ⊕ (Unit ⊕ Bool)) :=
  cond (decide (i5 < (n0.1.length : Int)))
    ((spec_Joined n0 i5 t7).bind fun t20 =>
    (spec_Joined n0 i5 t9).bind fun t24 =>
    (spec_SameOid t20 t24).bind fun t25 =>
    cond (!t25) (some (.inr (.inr false))) (some (.inl (w64 (i5 + 1)))))
    (some (.inr (.inl ())))
noncomputable def spec_OneTree (n0 : Net) : Option Bool :=
  (spec_Live n0).bind fun t7 =>
  (spec_UpLinks n0).bind fun t9 =>
  (loop (fun z => spec_OneTree_l0 n0 t7 t9 z) 0).bind (Sum.elim (fun d =>
    (spec_Loops n0 t7).bind fun t29 =>
    some (!t29)) (fun r => some r))
noncomputable def F_spec_OneTree : Fn := ⟨[.val true cNet false], [.val false (.one .bool) true], fun a => spec_OneTree a⟩
def a_spec_OneTree : List (Nat × LoopAnn) := [(0, ⟨⟨[(5, false, [.dat (.int .i64)])], []⟩,
    ⟨[], []⟩, some ⟨[(2, false, [.dat .bool])], []⟩⟩)]
theorem e_spec_OneTree : fnDen ⟨tis, fns_99⟩ a_spec_OneTree Try.f29 (codeOf Try.f29) [.val true cNet false] [.val false (.one .bool) true] = fun a => spec_OneTree a := by kernel_rfl
theorem m_spec_OneTree : Meets Try.prog 29 F_spec_OneTree := by
  have h := meets_of (ann := a_spec_OneTree) (ps := [.val true cNet false]) (rs := [.val false (.one .bool) true]) g_99 mixed Try.func29 (by kernel_rfl) (by kernel_rfl : Try.f29.body = some (codeOf Try.f29))
  rw [e_spec_OneTree] at h
  exact h
noncomputable def fns_29 : List (FuncId × Fn) := (29, F_spec_OneTree) :: fns_99
theorem g_29 : Good Try.prog ⟨tis, fns_29⟩ := g_99.cons m_spec_OneTree
noncomputable def impl_SameOid_l0 (a0 : List Int) (b1 : List Int) (t13 : Int) : Option (Int ⊕ (Unit ⊕ Bool)) :=
  cond (decide (t13 < (a0.length : Int)))
    ((at? a0 t13).bind fun x18 =>
    (at? b1 t13).bind fun x22 =>
    cond (x18 != x22) (some (.inr (.inr false))) (some (.inl (w64 (t13 + 1)))))
    (some (.inr (.inl ())))
noncomputable def impl_SameOid (a0 : List Int) (b1 : List Int) : Option Bool :=
  cond ((a0.length : Int) != (b1.length : Int))
    (some false)
    ((loop (fun z => impl_SameOid_l0 a0 b1 z) 0).bind (Sum.elim (fun d =>
      some true) (fun r => some r)))
noncomputable def F_impl_SameOid : Fn := ⟨[.val false (.one (.sl (.one (.int .i64)))) false, .val false (.one (.sl (.one (.int .i64)))) false], [.val false (.one .bool) true], fun a => impl_SameOid a.1 a.2⟩
def a_impl_SameOid : List (Nat × LoopAnn) := [(0, ⟨⟨[(13, false, [.dat (.int .i64)])], []⟩,
    ⟨[], []⟩, some ⟨[(4, false, [.dat .bool])], []⟩⟩)]
theorem e_impl_SameOid : fnDen ⟨tis, fns_29⟩ a_impl_SameOid Try.f38 (codeOf Try.f38) [.val false (.one (.sl (.one (.int .i64)))) false, .val false (.one (.sl (.one (.int .i64)))) false] [.val false (.one .bool) true] = fun a => impl_SameOid a.1 a.2 := by kernel_rfl
theorem m_impl_SameOid : Meets Try.prog 38 F_impl_SameOid := by
  have h := meets_of (ann := a_impl_SameOid) (ps := [.val false (.one (.sl (.one (.int .i64)))) false, .val false (.one (.sl (.one (.int .i64)))) false]) (rs := [.val false (.one .bool) true]) g_29 mixed Try.func38 (by kernel_rfl) (by kernel_rfl : Try.f38.body = some (codeOf Try.f38))
  rw [e_impl_SameOid] at h
  exact h
noncomputable def fns_38 : List (FuncId × Fn) := (38, F_impl_SameOid) :: fns_29
theorem g_38 : Good Try.prog ⟨tis, fns_38⟩ := g_29.cons m_impl_SameOid
noncomputable def impl_in (n0 : Int) (low1 : Int) (high2 : Int) : Option Bool :=
  (cond (decide (n0 ≥ low1)) (some (decide (n0 ≤ high2))) (some false)).bind fun t14 =>
  some t14
noncomputable def F_impl_in : Fn := ⟨[.val false (.one (.int .i64)) false, .val false (.one (.int .i64)) false, .val false (.one (.int .i64)) false], [.val false (.one .bool) true], fun a => impl_in a.1 a.2.1 a.2.2⟩
def a_impl_in : List (Nat × LoopAnn) := []
theorem e_impl_in : fnDen ⟨tis, fns_38⟩ a_impl_in Try.f112 (codeOf Try.f112) [.val false (.one (.int .i64)) false, .val false (.one (.int .i64)) false, .val false (.one (.int .i64)) false] [.val false (.one .bool) true] = fun a => impl_in a.1 a.2.1 a.2.2 := by kernel_rfl
theorem m_impl_in : Meets Try.prog 112 F_impl_in := by
  have h := meets_of (ann := a_impl_in) (ps := [.val false (.one (.int .i64)) false, .val false (.one (.int .i64)) false, .val false (.one (.int .i64)) false]) (rs := [.val false (.one .bool) true]) g_38 mixed Try.func112 (by kernel_rfl) (by kernel_rfl : Try.f112.body = some (codeOf Try.f112))
  rw [e_impl_in] at h
  exact h
noncomputable def fns_112 : List (FuncId × Fn) := (112, F_impl_in) :: fns_38
theorem g_112 : Good Try.prog ⟨tis, fns_112⟩ := g_38.cons m_impl_in
noncomputable def impl_portAt (n0 : Net) (b1 : Int) (p2 : Int) : Option (Pt × Bool) :=
  (impl_in b1 0 (w64 ((n0.1.length : Int) - 1))).bind fun t13 =>
  (cond (!t13)
    (some true)
    ((at? n0.1 b1).bind fun x20 =>
    (impl_in p2 0 (w64 ((x20.2.2.1.length : Int) - 1))).bind fun t25 =>
    some (!t25))).bind fun t27 =>
  cond t27
    (some ((false, 0, false, 0, 0, 0, 0, 0), false))
    ((at? n0.1 b1).bind fun x32 =>
    (at? x32.2.2.1 p2).bind fun x36 =>
    some (x36, true))
noncomputable def F_impl_portAt : Fn := ⟨[.val true cNet false, .val false (.one (.int .i64)) false, .val false (.one (.int .i64)) false], [.val true cPt true, .val false (.one .bool) true], fun a => impl_portAt a.1 a.2.1 a.2.2⟩
def a_impl_portAt : List (Nat × LoopAnn) := []
theorem e_impl_portAt : fnDen ⟨tis, fns_112⟩ a_impl_portAt Try.f242 (codeOf Try.f242) [.val true cNet false, .val false (.one (.int .i64)) false, .val false (.one (.int .i64)) false] [.val true cPt true, .val false (.one .bool) true] = fun a => impl_portAt a.1 a.2.1 a.2.2 := by kernel_rfl
theorem m_impl_portAt : Meets Try.prog 242 F_impl_portAt := by
  have h := meets_of (ann := a_impl_portAt) (ps := [.val true cNet false, .val false (.one (.int .i64)) false, .val false (.one (.int .i64)) false]) (rs := [.val true cPt true, .val false (.one .bool) true]) g_112 mixed Try.func242 (by kernel_rfl) (by kernel_rfl : Try.f242.body = some (codeOf Try.f242))
  rw [e_impl_portAt] at h
  exact h
noncomputable def fns_242 : List (FuncId × Fn) := (242, F_impl_portAt) :: fns_112
theorem g_242 : Good Try.prog ⟨tis, fns_242⟩ := g_112.cons m_impl_portAt
noncomputable def impl_LinkUp (n0 : Net) (k1 : Int) : Option Bool :=
  (impl_in k1 0 (w64 ((n0.2.1.length : Int) - 1))).bind fun t14 =>
  cond (!t14)
    (some false)
    ((at? n0.2.1 k1).bind fun x21 =>
    (at? n0.2.1 k1).bind fun x27 =>
    (impl_portAt n0 x21.1 x27.2.1).bind fun t30 =>
    (at? n0.2.1 k1).bind fun x38 =>
    (at? n0.2.1 k1).bind fun x44 =>
    (impl_portAt n0 x38.2.2.1 x44.2.2.2).bind fun t47 =>
    (cond t30.2 (some t47.2) (some false)).bind fun t53 =>
    (cond t53 (some t30.1.1) (some false)).bind fun t57 =>
    (cond t57 (some t47.1.1) (some false)).bind fun t61 =>
    some t61)
noncomputable def F_impl_LinkUp : Fn := ⟨[.val true cNet false, .val false (.one (.int .i64)) false], [.val false (.one .bool) true], fun a => impl_LinkUp a.1 a.2⟩
def a_impl_LinkUp : List (Nat × LoopAnn) := []
theorem e_impl_LinkUp : fnDen ⟨tis, fns_242⟩ a_impl_LinkUp Try.f181 (codeOf Try.f181) [.val true cNet false, .val false (.one (.int .i64)) false] [.val false (.one .bool) true] = fun a => impl_LinkUp a.1 a.2 := by kernel_rfl
theorem m_impl_LinkUp : Meets Try.prog 181 F_impl_LinkUp := by
  have h := meets_of (ann := a_impl_LinkUp) (ps := [.val true cNet false, .val false (.one (.int .i64)) false]) (rs := [.val false (.one .bool) true]) g_242 mixed Try.func181 (by kernel_rfl) (by kernel_rfl : Try.f181.body = some (codeOf Try.f181))
  rw [e_impl_LinkUp] at h
  exact h
noncomputable def fns_181 : List (FuncId × Fn) := (181, F_impl_LinkUp) :: fns_242
theorem g_181 : Good Try.prog ⟨tis, fns_181⟩ := g_242.cons m_impl_LinkUp
noncomputable def impl_hasPort (bits0 : Int) (port1 : Int) : Option Bool :=
  (impl_in port1 0 62).bind fun t6 =>
  (cond t6
    ((shr .i64 bits0 port1).bind fun t10 =>
    some ((band .i64 t10 1) == 1))
    (some false)).bind fun t13 =>
  some t13
noncomputable def F_impl_hasPort : Fn := ⟨[.val false (.one (.int .i64)) false, .val false (.one (.int .i64)) false], [.val false (.one .bool) true], fun a => impl_hasPort a.1 a.2⟩
def a_impl_hasPort : List (Nat × LoopAnn) := []
theorem e_impl_hasPort : fnDen ⟨tis, fns_181⟩ a_impl_hasPort Try.f243 (codeOf Try.f243) [.val false (.one (.int .i64)) false, .val false (.one (.int .i64)) false] [.val false (.one .bool) true] = fun a => impl_hasPort a.1 a.2 := by kernel_rfl
theorem m_impl_hasPort : Meets Try.prog 243 F_impl_hasPort := by
  have h := meets_of (ann := a_impl_hasPort) (ps := [.val false (.one (.int .i64)) false, .val false (.one (.int .i64)) false]) (rs := [.val false (.one .bool) true]) g_181 mixed Try.func243 (by kernel_rfl) (by kernel_rfl : Try.f243.body = some (codeOf Try.f243))
  rw [e_impl_hasPort] at h
  exact h
noncomputable def fns_243 : List (FuncId × Fn) := (243, F_impl_hasPort) :: fns_181
theorem g_243 : Good Try.prog ⟨tis, fns_243⟩ := g_181.cons m_impl_hasPort
noncomputable def impl_VecOk (v0 : Vec) : Option Bool :=
  (impl_in v0.1 1 99).bind fun t5 =>
  (cond t5
    ((impl_in v0.2.1 0 100000).bind fun t9 =>
    some t9)
    (some false)).bind fun t10 =>
  (cond t10
    ((impl_in v0.2.2.1 0 10).bind fun t14 =>
    some t14)
    (some false)).bind fun t15 =>
  (cond t15
    ((impl_in v0.2.2.2.1 1 99).bind fun t19 =>
    some t19)
    (some false)).bind fun t20 =>
  (cond t20
    ((impl_in v0.2.2.2.2 0 7).bind fun t24 =>
    some t24)
    (some false)).bind fun t25 =>
  some t25
noncomputable def F_impl_VecOk : Fn := ⟨[.val true cVec false], [.val false (.one .bool) true], fun a => impl_VecOk a⟩
def a_impl_VecOk : List (Nat × LoopAnn) := []
theorem e_impl_VecOk : fnDen ⟨tis, fns_243⟩ a_impl_VecOk Try.f224 (codeOf Try.f224) [.val true cVec false] [.val false (.one .bool) true] = fun a => impl_VecOk a := by kernel_rfl
theorem m_impl_VecOk : Meets Try.prog 224 F_impl_VecOk := by
  have h := meets_of (ann := a_impl_VecOk) (ps := [.val true cVec false]) (rs := [.val false (.one .bool) true]) g_243 mixed Try.func224 (by kernel_rfl) (by kernel_rfl : Try.f224.body = some (codeOf Try.f224))
  rw [e_impl_VecOk] at h
  exact h
noncomputable def fns_224 : List (FuncId × Fn) := (224, F_impl_VecOk) :: fns_243
theorem g_224 : Good Try.prog ⟨tis, fns_224⟩ := g_243.cons m_impl_VecOk
noncomputable def impl_StepVec (v0 : Vec) (cost1 : Int) : Option (Vec × Bool) :=
  (impl_VecOk v0).bind fun t8 =>
  (cond (!t8)
    (some true)
    ((impl_in cost1 1 1000).bind fun t12 =>
    some (!t12))).bind fun t14 =>
  cond t14
    (some (v0, false))
    ((impl_VecOk (v0.1, w64 (v0.2.1 + cost1), w64 (v0.2.2.1 + 1), v0.2.2.2.1, v0.2.2.2.2)).bind fun t27 =>
    cond (!t27)
      (some (v0, false))
      (some ((v0.1, w64 (v0.2.1 + cost1), w64 (v0.2.2.1 + 1), v0.2.2.2.1, v0.2.2.2.2), true)))
noncomputable def F_impl_StepVec : Fn := ⟨[.val true cVec false, .val false (.one (.int .i64)) false], [.val true cVec true, .val false (.one .bool) true], fun a => impl_StepVec a.1 a.2⟩
def a_impl_StepVec : List (Nat × LoopAnn) := []
theorem e_impl_StepVec : fnDen ⟨tis, fns_224⟩ a_impl_StepVec Try.f235 (codeOf Try.f235) [.val true cVec false, .val false (.one (.int .i64)) false] [.val true cVec true, .val false (.one .bool) true] = fun a => impl_StepVec a.1 a.2 := by kernel_rfl
theorem m_impl_StepVec : Meets Try.prog 235 F_impl_StepVec := by
  have h := meets_of (ann := a_impl_StepVec) (ps := [.val true cVec false, .val false (.one (.int .i64)) false]) (rs := [.val true cVec true, .val false (.one .bool) true]) g_224 mixed Try.func235 (by kernel_rfl) (by kernel_rfl : Try.f235.body = some (codeOf Try.f235))
  rw [e_impl_StepVec] at h
  exact h
noncomputable def fns_235 : List (FuncId × Fn) := (235, F_impl_StepVec) :: fns_224
theorem g_235 : Good Try.prog ⟨tis, fns_235⟩ := g_224.cons m_impl_StepVec
noncomputable def impl_LessVec (a0 : Vec) (b1 : Vec) : Option Bool :=
  cond (a0.1 != b1.1)
    (some (decide (a0.1 < b1.1)))
    (cond (a0.2.1 != b1.2.1)
      (some (decide (a0.2.1 < b1.2.1)))
      (cond (a0.2.2.2.1 != b1.2.2.2.1)
        (let t4 := decide (a0.2.2.2.1 < b1.2.2.2.1)
        some t4)
        (let t4_1 := decide (a0.2.2.2.2 < b1.2.2.2.2)
        some t4_1)))
noncomputable def F_impl_LessVec : Fn := ⟨[.val true cVec false, .val true cVec false], [.val false (.one .bool) true], fun a => impl_LessVec a.1 a.2⟩
def a_impl_LessVec : List (Nat × LoopAnn) := []
theorem e_impl_LessVec : fnDen ⟨tis, fns_235⟩ a_impl_LessVec Try.f236 (codeOf Try.f236) [.val true cVec false, .val true cVec false] [.val false (.one .bool) true] = fun a => impl_LessVec a.1 a.2 := by kernel_rfl
theorem m_impl_LessVec : Meets Try.prog 236 F_impl_LessVec := by
  have h := meets_of (ann := a_impl_LessVec) (ps := [.val true cVec false, .val true cVec false]) (rs := [.val false (.one .bool) true]) g_235 mixed Try.func236 (by kernel_rfl) (by kernel_rfl : Try.f236.body = some (codeOf Try.f236))
  rw [e_impl_LessVec] at h
  exact h
noncomputable def fns_236 : List (FuncId × Fn) := (236, F_impl_LessVec) :: fns_235
theorem g_236 : Good Try.prog ⟨tis, fns_236⟩ := g_235.cons m_impl_LessVec
noncomputable def impl_BestVec_l0 (p0 : Int) (i1 : List Pt) (t7 : Int) (t18 : Int) (b0 : Int) (b1 : Int) (b2 : Int) (b3 : Int) (b4 : Int) (b0_1 : Int) (b1_1 : Int) (b2_1 : Int) (b3_1 : Int) (b4_1 : Int) : Option ((Int × Int × Int × Int × Int × Int × Int × Int × Int × Int × Int × Int) ⊕ (Int × Int × Int × Int × Int × Int × Int × Int × Int × Int × Int)) :=
  cond (decide (t18 < (i1.length : Int)))
    ((at? i1 t18).bind fun x21 =>
    (cond (!x21.1) (some true) (some (!x21.2.2.1))).bind fun t30 =>
    cond t30
      (some (.inl (t7, w64 (t18 + 1), b0, b1, b2, b3, b4, b0_1, b1_1, b2_1, b3_1, b4_1)))
      ((impl_StepVec x21.2.2.2 x21.2.1).bind fun t36 =>
      (cond t36.2 (some (decide (t36.1.1 < p0))) (some false)).bind fun t45 =>
      (cond t45
        ((cond (decide (t7 < 0))
          (some true)
          ((impl_LessVec t36.1 (b0_1, b1_1, b2_1, b3_1, b4_1)).bind fun t52 =>
          some t52)).bind fun t53 =>
        some t53)
        (some false)).bind fun t54 =>
      cond t54
        (some (.inl (t18, w64 (t18 + 1), t36.1.1, t36.1.2.1, t36.1.2.2.1, p0, 0, t36.1.1, t36.1.2.1, t36.1.2.2.1, t36.1.2.2.2.1, t36.1.2.2.2.2)))
        (some (.inl (t7, w64 (t18 + 1), b0, b1, b2, b3, b4, b0_1, b1_1, b2_1, b3_1, b4_1)))))
    (some (.inr (t7, b0, b1, b2, b3, b4, b0_1, b1_1, b2_1, b3_1, b4_1)))
noncomputable def impl_BestVec (p0 : Int) (i1 : List Pt) : Option (Vec × Int) :=
  (loop (fun z => impl_BestVec_l0 p0 i1 z.1 z.2.1 z.2.2.1 z.2.2.2.1 z.2.2.2.2.1 z.2.2.2.2.2.1 z.2.2.2.2.2.2.1 z.2.2.2.2.2.2.2.1 z.2.2.2.2.2.2.2.2.1 z.2.2.2.2.2.2.2.2.2.1 z.2.2.2.2.2.2.2.2.2.2.1 z.2.2.2.2.2.2.2.2.2.2.2) ((-1), 0, p0, 0, 0, p0, 0, 0, 0, 0, 0, 0)).bind fun d =>
  some ((d.2.1, d.2.2.1, d.2.2.2.1, d.2.2.2.2.1, d.2.2.2.2.2.1), d.1)
noncomputable def F_impl_BestVec : Fn := ⟨[.val false (.one (.int .i64)) false, .val false (.one (.sl cPt)) false], [.val true cVec true, .val false (.one (.int .i64)) true], fun a => impl_BestVec a.1 a.2⟩
def a_impl_BestVec : List (Nat × LoopAnn) := [(0, ⟨⟨[(7, false, [.dat (.int .i64)]), (18, false, [.dat (.int .i64)]), (27, false, [.undef]), (28, false, [.undef]), (29, false, [.undef]), (41, false, [.undef]), (42, false, [.undef]), (43, false, [.undef]), (44, false, [.undef]), (47, false, [.undef]), (48, false, [.undef]), (49, false, [.undef]), (50, false, [.undef]), (51, false, [.undef]), (52, false, [.undef]), (53, false, [.undef])], [(266240, .box [.dat (.int .i64), .dat (.int .i64), .dat (.int .i64), .dat (.int .i64), .dat (.int .i64)]), (525312, .box [.dat (.int .i64), .dat (.int .i64), .dat (.int .i64), .dat (.int .i64), .dat (.int .i64)])]⟩,
    ⟨[(7, false, [.dat (.int .i64)])], [(266240, .box [.dat (.int .i64), .dat (.int .i64), .dat (.int .i64), .dat (.int .i64), .dat (.int .i64)]), (525312, .box [.dat (.int .i64), .dat (.int .i64), .dat (.int .i64), .dat (.int .i64), .dat (.int .i64)])]⟩, none⟩)]
theorem e_impl_BestVec : fnDen ⟨tis, fns_236⟩ a_impl_BestVec Try.f172 (codeOf Try.f172) [.val false (.one (.int .i64)) false, .val false (.one (.sl cPt)) false] [.val true cVec true, .val false (.one (.int .i64)) true] = fun a => impl_BestVec a.1 a.2 := by kernel_rfl
theorem m_impl_BestVec : Meets Try.prog 172 F_impl_BestVec := by
  have h := meets_of (ann := a_impl_BestVec) (ps := [.val false (.one (.int .i64)) false, .val false (.one (.sl cPt)) false]) (rs := [.val true cVec true, .val false (.one (.int .i64)) true]) g_236 mixed Try.func172 (by kernel_rfl) (by kernel_rfl : Try.f172.body = some (codeOf Try.f172))
  rw [e_impl_BestVec] at h
  exact h
noncomputable def fns_172 : List (FuncId × Fn) := (172, F_impl_BestVec) :: fns_236
theorem g_172 : Good Try.prog ⟨tis, fns_172⟩ := g_236.cons m_impl_BestVec
noncomputable def impl_SayVec (id0 : Int) (l1 : List Pt) (port2 : Int) : Option Vec :=
  (impl_BestVec id0 l1).bind fun t12 =>
  some (t12.1.1, t12.1.2.1, t12.1.2.2.1, t12.1.2.2.2.1, port2)
noncomputable def F_impl_SayVec : Fn := ⟨[.val false (.one (.int .i64)) false, .val false (.one (.sl cPt)) false, .val false (.one (.int .i64)) false], [.val true cVec true], fun a => impl_SayVec a.1 a.2.1 a.2.2⟩
def a_impl_SayVec : List (Nat × LoopAnn) := []
theorem e_impl_SayVec : fnDen ⟨tis, fns_172⟩ a_impl_SayVec Try.f264 (codeOf Try.f264) [.val false (.one (.int .i64)) false, .val false (.one (.sl cPt)) false, .val false (.one (.int .i64)) false] [.val true cVec true] = fun a => impl_SayVec a.1 a.2.1 a.2.2 := by kernel_rfl
theorem m_impl_SayVec : Meets Try.prog 264 F_impl_SayVec := by
  have h := meets_of (ann := a_impl_SayVec) (ps := [.val false (.one (.int .i64)) false, .val false (.one (.sl cPt)) false, .val false (.one (.int .i64)) false]) (rs := [.val true cVec true]) g_172 mixed Try.func264 (by kernel_rfl) (by kernel_rfl : Try.f264.body = some (codeOf Try.f264))
  rw [e_impl_SayVec] at h
  exact h
noncomputable def fns_264 : List (FuncId × Fn) := (264, F_impl_SayVec) :: fns_172
theorem g_264 : Good Try.prog ⟨tis, fns_264⟩ := g_172.cons m_impl_SayVec
noncomputable def impl_RoleOf (id0 : Int) (l1 : List Pt) (port2 : Int) : Option Int :=
  (impl_in port2 0 (w64 ((l1.length : Int) - 1))).bind fun t13 =>
  (cond (!t13)
    (some true)
    ((at? l1 port2).bind fun x18 =>
    some (!x18.1))).bind fun t22 =>
  cond t22
    (some 4)
    ((impl_BestVec id0 l1).bind fun t26 =>
    cond (t26.2 == port2)
      (some 1)
      ((at? l1 port2).bind fun x36 =>
      (cond (!x36.2.2.1)
        (some true)
        ((impl_SayVec id0 l1 port2).bind fun t44 =>
        (at? l1 port2).bind fun x47 =>
        (impl_LessVec t44 x47.2.2.2).bind fun t50 =>
        some t50)).bind fun t51 =>
      cond t51 (some 2) (some 3)))
noncomputable def F_impl_RoleOf : Fn := ⟨[.val false (.one (.int .i64)) false, .val false (.one (.sl cPt)) false, .val false (.one (.int .i64)) false], [.val false (.one (.int .i64)) true], fun a => impl_RoleOf a.1 a.2.1 a.2.2⟩
def a_impl_RoleOf : List (Nat × LoopAnn) := []
theorem e_impl_RoleOf : fnDen ⟨tis, fns_264⟩ a_impl_RoleOf Try.f212 (codeOf Try.f212) [.val false (.one (.int .i64)) false, .val false (.one (.sl cPt)) false, .val false (.one (.int .i64)) false] [.val false (.one (.int .i64)) true] = fun a => impl_RoleOf a.1 a.2.1 a.2.2 := by kernel_rfl
theorem m_impl_RoleOf : Meets Try.prog 212 F_impl_RoleOf := by
  have h := meets_of (ann := a_impl_RoleOf) (ps := [.val false (.one (.int .i64)) false, .val false (.one (.sl cPt)) false, .val false (.one (.int .i64)) false]) (rs := [.val false (.one (.int .i64)) true]) g_264 mixed Try.func212 (by kernel_rfl) (by kernel_rfl : Try.f212.body = some (codeOf Try.f212))
  rw [e_impl_RoleOf] at h
  exact h
noncomputable def fns_212 : List (FuncId × Fn) := (212, F_impl_RoleOf) :: fns_264
theorem g_212 : Good Try.prog ⟨tis, fns_212⟩ := g_264.cons m_impl_RoleOf
noncomputable def impl_Sends_l0 (id0 : Int) (l1 : List Pt) (bits5 : Int) (port6 : Int) : Option ((Int × Int) ⊕ Int) :=
  (cond (decide (port6 < (l1.length : Int))) (some (decide (port6 < 6))) (some false)).bind fun t15 =>
  cond t15
    ((impl_RoleOf id0 l1 port6).bind fun t21 =>
    (cond (t21 == 1) (some true) (some (t21 == 2))).bind fun t27 =>
    cond t27
      ((shl .i64 1 port6).bind fun t30 =>
      some (.inl (bor .i64 bits5 t30, w64 (port6 + 1))))
      (some (.inl (bits5, w64 (port6 + 1)))))
    (some (.inr bits5))
noncomputable def impl_Sends (id0 : Int) (l1 : List Pt) : Option Int :=
  (loop (fun z => impl_Sends_l0 id0 l1 z.1 z.2) (0, 0)).bind fun d =>
  some d
noncomputable def F_impl_Sends : Fn := ⟨[.val false (.one (.int .i64)) false, .val false (.one (.sl cPt)) false], [.val false (.one (.int .i64)) true], fun a => impl_Sends a.1 a.2⟩
def a_impl_Sends : List (Nat × LoopAnn) := [(0, ⟨⟨[(5, false, [.dat (.int .i64)]), (6, false, [.dat (.int .i64)]), (13, false, [.undef]), (14, false, [.undef]), (25, false, [.undef]), (26, false, [.undef])], []⟩,
    ⟨[(5, false, [.dat (.int .i64)])], []⟩, none⟩)]
theorem e_impl_Sends : fnDen ⟨tis, fns_212⟩ a_impl_Sends Try.f244 (codeOf Try.f244) [.val false (.one (.int .i64)) false, .val false (.one (.sl cPt)) false] [.val false (.one (.int .i64)) true] = fun a => impl_Sends a.1 a.2 := by kernel_rfl
theorem m_impl_Sends : Meets Try.prog 244 F_impl_Sends := by
  have h := meets_of (ann := a_impl_Sends) (ps := [.val false (.one (.int .i64)) false, .val false (.one (.sl cPt)) false]) (rs := [.val false (.one (.int .i64)) true]) g_212 mixed Try.func244 (by kernel_rfl) (by kernel_rfl : Try.f244.body = some (codeOf Try.f244))
  rw [e_impl_Sends] at h
  exact h
noncomputable def fns_244 : List (FuncId × Fn) := (244, F_impl_Sends) :: fns_212
theorem g_244 : Good Try.prog ⟨tis, fns_244⟩ := g_212.cons m_impl_Sends
noncomputable def impl_sendsBy (n0 : Net) (b1 : Int) (p2 : Int) : Option Bool :=
  (at? n0.1 b1).bind fun x10 =>
  (at? n0.1 b1).bind fun x16 =>
  (impl_Sends x10.1 x16.2.2.1).bind fun t19 =>
  (impl_hasPort t19 p2).bind fun t21 =>
  some t21
noncomputable def F_impl_sendsBy : Fn := ⟨[.val true cNet false, .val false (.one (.int .i64)) false, .val false (.one (.int .i64)) false], [.val false (.one .bool) true], fun a => impl_sendsBy a.1 a.2.1 a.2.2⟩
def a_impl_sendsBy : List (Nat × LoopAnn) := []
theorem e_impl_sendsBy : fnDen ⟨tis, fns_244⟩ a_impl_sendsBy Try.f182 (codeOf Try.f182) [.val true cNet false, .val false (.one (.int .i64)) false, .val false (.one (.int .i64)) false] [.val false (.one .bool) true] = fun a => impl_sendsBy a.1 a.2.1 a.2.2 := by kernel_rfl
theorem m_impl_sendsBy : Meets Try.prog 182 F_impl_sendsBy := by
  have h := meets_of (ann := a_impl_sendsBy) (ps := [.val true cNet false, .val false (.one (.int .i64)) false, .val false (.one (.int .i64)) false]) (rs := [.val false (.one .bool) true]) g_244 mixed Try.func182 (by kernel_rfl) (by kernel_rfl : Try.f182.body = some (codeOf Try.f182))
  rw [e_impl_sendsBy] at h
  exact h
noncomputable def fns_182 : List (FuncId × Fn) := (182, F_impl_sendsBy) :: fns_244
theorem g_182 : Good Try.prog ⟨tis, fns_182⟩ := g_244.cons m_impl_sendsBy
noncomputable def impl_Live_l0 (n0 : Net) (t9 : Int) (out3 : List Int) : Option ((Int × List Int) ⊕ (List Int)) :=
  cond (decide (t9 < (n0.2.1.length : Int)))
    ((at? n0.2.1 t9).bind fun x12 =>
    (impl_LinkUp n0 t9).bind fun t16 =>
    (cond t16
      ((impl_sendsBy n0 x12.1 x12.2.1).bind fun t23 =>
      some t23)
      (some false)).bind fun t24 =>
    (cond t24
      ((impl_sendsBy n0 x12.2.2.1 x12.2.2.2).bind fun t31 =>
      some t31)
      (some false)).bind fun t32 =>
    cond t32
      ((app out3 [t9]).bind fun zs36 =>
      some (.inl (w64 (t9 + 1), zs36)))
      (some (.inl (w64 (t9 + 1), out3))))
    (some (.inr out3))
noncomputable def impl_Live (n0 : Net) : Option (List Int) :=
  (loop (fun z => impl_Live_l0 n0 z.1 z.2) (0, [])).bind fun d =>
  some d
noncomputable def F_impl_Live : Fn := ⟨[.val true cNet false], [.val false (.one (.sl (.one (.int .i64)))) true], fun a => impl_Live a⟩
def a_impl_Live : List (Nat × LoopAnn) := [(0, ⟨⟨[(3, false, [.own 1000000000]), (9, false, [.dat (.int .i64)]), (18, false, [.undef]), (19, false, [.undef]), (20, false, [.undef]), (21, false, [.undef]), (22, false, [.undef]), (23, false, [.undef]), (26, false, [.undef]), (27, false, [.undef]), (28, false, [.undef]), (29, false, [.undef]), (30, false, [.undef]), (31, false, [.undef])], [(1000000000, .root (.one (.int .i64)) true)]⟩,
    ⟨[(3, false, [.own 1000000300])], [(1000000300, .root (.one (.int .i64)) true)]⟩, none⟩)]
theorem e_impl_Live : fnDen ⟨tis, fns_182⟩ a_impl_Live Try.f100 (codeOf Try.f100) [.val true cNet false] [.val false (.one (.sl (.one (.int .i64)))) true] = fun a => impl_Live a := by kernel_rfl
theorem m_impl_Live : Meets Try.prog 100 F_impl_Live := by
  have h := meets_of (ann := a_impl_Live) (ps := [.val true cNet false]) (rs := [.val false (.one (.sl (.one (.int .i64)))) true]) g_182 mixed Try.func100 (by kernel_rfl) (by kernel_rfl : Try.f100.body = some (codeOf Try.f100))
  rw [e_impl_Live] at h
  exact h
noncomputable def fns_100 : List (FuncId × Fn) := (100, F_impl_Live) :: fns_182
theorem g_100 : Good Try.prog ⟨tis, fns_100⟩ := g_182.cons m_impl_Live
noncomputable def impl_UpLinks_l0 (n0 : Net) (t8 : Int) (out3 : List Int) : Option ((Int × List Int) ⊕ (List Int)) :=
  cond (decide (t8 < (n0.2.1.length : Int)))
    ((impl_LinkUp n0 t8).bind fun t13 =>
    cond t13
      ((app out3 [t8]).bind fun zs17 =>
      some (.inl (w64 (t8 + 1), zs17)))
      (some (.inl (w64 (t8 + 1), out3))))
    (some (.inr out3))
noncomputable def impl_UpLinks (n0 : Net) : Option (List Int) :=
  (loop (fun z => impl_UpLinks_l0 n0 z.1 z.2) (0, [])).bind fun d =>
  some d
noncomputable def F_impl_UpLinks : Fn := ⟨[.val true cNet false], [.val false (.one (.sl (.one (.int .i64)))) true], fun a => impl_UpLinks a⟩
def a_impl_UpLinks : List (Nat × LoopAnn) := [(0, ⟨⟨[(3, false, [.own 1000000000]), (8, false, [.dat (.int .i64)])], [(1000000000, .root (.one (.int .i64)) true)]⟩,
    ⟨[(3, false, [.own 1000000300])], [(1000000300, .root (.one (.int .i64)) true)]⟩, none⟩)]
theorem e_impl_UpLinks : fnDen ⟨tis, fns_100⟩ a_impl_UpLinks Try.f101 (codeOf Try.f101) [.val true cNet false] [.val false (.one (.sl (.one (.int .i64)))) true] = fun a => impl_UpLinks a := by kernel_rfl
theorem m_impl_UpLinks : Meets Try.prog 101 F_impl_UpLinks := by
  have h := meets_of (ann := a_impl_UpLinks) (ps := [.val true cNet false]) (rs := [.val false (.one (.sl (.one (.int .i64)))) true]) g_100 mixed Try.func101 (by kernel_rfl) (by kernel_rfl : Try.f101.body = some (codeOf Try.f101))
  rw [e_impl_UpLinks] at h
  exact h
noncomputable def fns_101 : List (FuncId × Fn) := (101, F_impl_UpLinks) :: fns_100
theorem g_101 : Good Try.prog ⟨tis, fns_101⟩ := g_100.cons m_impl_UpLinks
noncomputable def impl_Joined_l2 (p0 : Net) (a2 : List Int) (t8_1 : Bool) (t32 : Int) (l_1 : List Bool) : Option ((Bool × Int × List Bool) ⊕ (Bool × List Bool)) :=
  cond (decide (t32 < (a2.length : Int)))
    ((at? a2 t32).bind fun x34 =>
    (impl_in x34 0 (w64 ((p0.2.1.length : Int) - 1))).bind fun t41 =>
    cond (!t41)
      (some (.inl (t8_1, w64 (t32 + 1), l_1)))
      ((at? p0.2.1 x34).bind fun x46 =>
      (impl_in x46.1 0 (w64 ((l_1.length : Int) - 1))).bind fun t53 =>
      (cond t53
        ((impl_in x46.2.2.1 0 (w64 ((l_1.length : Int) - 1))).bind fun t60 =>
        some t60)
        (some false)).bind fun t61 =>
      (cond t61
        ((ix l_1.length x46.1).bind fun j66 =>
        (l_1[j66]?).bind fun x67 =>
        (ix l_1.length x46.2.2.1).bind fun j71 =>
        (l_1[j71]?).bind fun x72 =>
        some (!(x67 == x72)))
        (some false)).bind fun t74 =>
      cond t74
        ((ix l_1.length x46.1).bind fun j81 =>
        (l_1[j81]?).bind fun x_1 =>
        (ix (l_1.set j81 true).length x46.2.2.1).bind fun j82 =>
        ((l_1.set j81 true)[j82]?).bind fun x_2 =>
        some (.inl (true, w64 (t32 + 1), (l_1.set j81 true).set j82 true)))
        (some (.inl (t8_1, w64 (t32 + 1), l_1)))))
    (some (.inr (t8_1, l_1)))
noncomputable def impl_Joined_l0 (p0 : Net) (a2 : List Int) (t8 : Bool) (l : List Bool) : Option ((Bool × List Bool) ⊕ (List Bool)) :=
  cond t8
    ((loop (fun z => impl_Joined_l2 p0 a2 z.1 z.2.1 z.2.2) (false, 0, l)).bind fun d =>
    some (.inl d))
    (some (.inr l))
noncomputable def impl_Joined_l4 (d_1 : List Bool) (t86 : Int) (t12 : List Int) : Option ((Int × List Int) ⊕ (List Int)) :=
  cond (decide (t86 < (d_1.length : Int)))
    ((ix d_1.length t86).bind fun j89 =>
    (d_1[j89]?).bind fun x90 =>
    cond x90
      ((app t12 [t86]).bind fun zs95 =>
      some (.inl (w64 (t86 + 1), zs95)))
      (some (.inl (w64 (t86 + 1), t12))))
    (some (.inr t12))
noncomputable def impl_Joined (p0 : Net) (i1 : Int) (a2 : List Int) : Option (List Int) :=
  (impl_in i1 0 (w64 ((p0.1.length : Int) - 1))).bind fun t20 =>
  cond (!t20)
    (some [])
    ((mkLen (p0.1.length : Int)).bind fun n =>
    (ix (List.replicate n (false : Bool)).length i1).bind fun j28 =>
    ((List.replicate n (false : Bool))[j28]?).bind fun x =>
    (loop (fun z => impl_Joined_l0 p0 a2 z.1 z.2) (true, (List.replicate n (false : Bool)).set j28 true)).bind fun d_1 =>
    (loop (fun z => impl_Joined_l4 d_1 z.1 z.2) (0, [])).bind fun d_2 =>
    some d_2)
noncomputable def F_impl_Joined : Fn := ⟨[.val true cNet false, .val false (.one (.int .i64)) false, .val false (.one (.sl (.one (.int .i64)))) false], [.val false (.one (.sl (.one (.int .i64)))) true], fun a => impl_Joined a.1 a.2.1 a.2.2⟩
def a_impl_Joined : List (Nat × LoopAnn) := [(0, ⟨⟨[(8, false, [.dat .bool]), (55, false, [.undef]), (56, false, [.undef]), (57, false, [.undef]), (58, false, [.undef]), (59, false, [.undef]), (60, false, [.undef]), (63, false, [.undef]), (64, false, [.undef]), (65, false, [.undef]), (66, false, [.undef]), (67, false, [.undef]), (68, false, [.undef]), (69, false, [.undef]), (70, false, [.undef]), (71, false, [.undef]), (72, false, [.undef]), (73, false, [.undef])], [(790528, .keep (.one .bool) true)]⟩,
    ⟨[], [(790528, .keep (.one .bool) true)]⟩, none⟩),
  (2, ⟨⟨[(8, false, [.dat .bool]), (32, false, [.dat (.int .i64)]), (55, false, [.undef]), (56, false, [.undef]), (57, false, [.undef]), (58, false, [.undef]), (59, false, [.undef]), (60, false, [.undef]), (63, false, [.undef]), (64, false, [.undef]), (65, false, [.undef]), (66, false, [.undef]), (67, false, [.undef]), (68, false, [.undef]), (69, false, [.undef]), (70, false, [.undef]), (71, false, [.undef]), (72, false, [.undef]), (73, false, [.undef])], [(790528, .keep (.one .bool) true)]⟩,
    ⟨[(8, false, [.dat .bool]), (55, false, [.undef]), (56, false, [.undef]), (57, false, [.undef]), (58, false, [.undef]), (59, false, [.undef]), (60, false, [.undef]), (63, false, [.undef]), (64, false, [.undef]), (65, false, [.undef]), (66, false, [.undef]), (67, false, [.undef]), (68, false, [.undef]), (69, false, [.undef]), (70, false, [.undef]), (71, false, [.undef]), (72, false, [.undef]), (73, false, [.undef])], [(790528, .keep (.one .bool) true)]⟩, none⟩),
  (4, ⟨⟨[(12, false, [.own 1000004000]), (86, false, [.dat (.int .i64)])], [(1000004000, .root (.one (.int .i64)) true)]⟩,
    ⟨[(12, false, [.own 1000004300])], [(1000004300, .root (.one (.int .i64)) true)]⟩, none⟩)]
theorem e_impl_Joined : fnDen ⟨tis, fns_101⟩ a_impl_Joined Try.f102 (codeOf Try.f102) [.val true cNet false, .val false (.one (.int .i64)) false, .val false (.one (.sl (.one (.int .i64)))) false] [.val false (.one (.sl (.one (.int .i64)))) true] = fun a => impl_Joined a.1 a.2.1 a.2.2 := by kernel_rfl
theorem m_impl_Joined : Meets Try.prog 102 F_impl_Joined := by
  have h := meets_of (ann := a_impl_Joined) (ps := [.val true cNet false, .val false (.one (.int .i64)) false, .val false (.one (.sl (.one (.int .i64)))) false]) (rs := [.val false (.one (.sl (.one (.int .i64)))) true]) g_101 mixed Try.func102 (by kernel_rfl) (by kernel_rfl : Try.f102.body = some (codeOf Try.f102))
  rw [e_impl_Joined] at h
  exact h
noncomputable def fns_102 : List (FuncId × Fn) := (102, F_impl_Joined) :: fns_101
theorem g_102 : Good Try.prog ⟨tis, fns_102⟩ := g_101.cons m_impl_Joined
noncomputable def impl_copyInts (l0 : List Int) : Option (List Int) :=
  (app [] l0).bind fun zs4 =>
  some zs4
noncomputable def F_impl_copyInts : Fn := ⟨[.val false (.one (.sl (.one (.int .i64)))) false], [.val false (.one (.sl (.one (.int .i64)))) true], fun a => impl_copyInts a⟩
def a_impl_copyInts : List (Nat × LoopAnn) := []
theorem e_impl_copyInts : fnDen ⟨tis, fns_102⟩ a_impl_copyInts Try.f110 (codeOf Try.f110) [.val false (.one (.sl (.one (.int .i64)))) false] [.val false (.one (.sl (.one (.int .i64)))) true] = fun a => impl_copyInts a := by kernel_rfl
theorem m_impl_copyInts : Meets Try.prog 110 F_impl_copyInts := by
  have h := meets_of (ann := a_impl_copyInts) (ps := [.val false (.one (.sl (.one (.int .i64)))) false]) (rs := [.val false (.one (.sl (.one (.int .i64)))) true]) g_102 mixed Try.func110 (by kernel_rfl) (by kernel_rfl : Try.f110.body = some (codeOf Try.f110))
  rw [e_impl_copyInts] at h
  exact h
noncomputable def fns_110 : List (FuncId × Fn) := (110, F_impl_copyInts) :: fns_102
theorem g_110 : Good Try.prog ⟨tis, fns_110⟩ := g_102.cons m_impl_copyInts
noncomputable def impl_hasInt_l0 (l0 : List Int) (n1 : Int) (t9 : Int) : Option (Int ⊕ (Unit ⊕ Bool)) :=
  cond (decide (t9 < (l0.length : Int)))
    ((at? l0 t9).bind fun x11 =>
    cond (x11 == n1) (some (.inr (.inr true))) (some (.inl (w64 (t9 + 1)))))
    (some (.inr (.inl ())))
noncomputable def impl_hasInt (l0 : List Int) (n1 : Int) : Option Bool :=
  (loop (fun z => impl_hasInt_l0 l0 n1 z) 0).bind (Sum.elim (fun d =>
    some false) (fun r => some r))
noncomputable def F_impl_hasInt : Fn := ⟨[.val false (.one (.sl (.one (.int .i64)))) false, .val false (.one (.int .i64)) false], [.val false (.one .bool) true], fun a => impl_hasInt a.1 a.2⟩
def a_impl_hasInt : List (Nat × LoopAnn) := [(0, ⟨⟨[(9, false, [.dat (.int .i64)])], []⟩,
    ⟨[], []⟩, some ⟨[(4, false, [.dat .bool])], []⟩⟩)]
theorem e_impl_hasInt : fnDen ⟨tis, fns_110⟩ a_impl_hasInt Try.f183 (codeOf Try.f183) [.val false (.one (.sl (.one (.int .i64)))) false, .val false (.one (.int .i64)) false] [.val false (.one .bool) true] = fun a => impl_hasInt a.1 a.2 := by kernel_rfl
theorem m_impl_hasInt : Meets Try.prog 183 F_impl_hasInt := by
  have h := meets_of (ann := a_impl_hasInt) (ps := [.val false (.one (.sl (.one (.int .i64)))) false, .val false (.one (.int .i64)) false]) (rs := [.val false (.one .bool) true]) g_110 mixed Try.func183 (by kernel_rfl) (by kernel_rfl : Try.f183.body = some (codeOf Try.f183))
  rw [e_impl_hasInt] at h
  exact h
noncomputable def fns_183 : List (FuncId × Fn) := (183, F_impl_hasInt) :: fns_110
theorem g_183 : Good Try.prog ⟨tis, fns_183⟩ := g_110.cons m_impl_hasInt
noncomputable def impl_Loops_l0 (n0 : Net) (l1 : List Int) (t10 : Int) : Option (Int ⊕ (Unit ⊕ Bool)) :=
  cond (decide (t10 < (l1.length : Int)))
    ((at? l1 t10).bind fun x13 =>
    (impl_in x13 0 (w64 ((n0.2.1.length : Int) - 1))).bind fun t20 =>
    cond (!t20)
      (some (.inl (w64 (t10 + 1))))
      ((cut l1 0 t10).bind fun t24 =>
      (impl_copyInts t24).bind fun t25 =>
      (cut l1 (w64 (t10 + 1)) (l1.length : Int)).bind fun t29 =>
      (app t25 t29).bind fun zs30 =>
      (at? n0.2.1 x13).bind fun x35 =>
      (impl_Joined n0 x35.1 zs30).bind fun t39 =>
      (at? n0.2.1 x13).bind fun x43 =>
      (impl_hasInt t39 x43.2.2.1).bind fun t46 =>
      cond t46 (some (.inr (.inr true))) (some (.inl (w64 (t10 + 1))))))
    (some (.inr (.inl ())))
noncomputable def impl_Loops (n0 : Net) (l1 : List Int) : Option Bool :=
  (loop (fun z => impl_Loops_l0 n0 l1 z) 0).bind (Sum.elim (fun d =>
    some false) (fun r => some r))
noncomputable def F_impl_Loops : Fn := ⟨[.val true cNet false, .val false (.one (.sl (.one (.int .i64)))) false], [.val false (.one .bool) true], fun a => impl_Loops a.1 a.2⟩
def a_impl_Loops : List (Nat × LoopAnn) := [(0, ⟨⟨[(10, false, [.dat (.int .i64)])], []⟩,
    ⟨[], []⟩, some ⟨[(4, false, [.dat .bool])], []⟩⟩)]
theorem e_impl_Loops : fnDen ⟨tis, fns_183⟩ a_impl_Loops Try.f103 (codeOf Try.f103) [.val true cNet false, .val false (.one (.sl (.one (.int .i64)))) false] [.val false (.one .bool) true] = fun a => impl_Loops a.1 a.2 := by kernel_rfl
theorem m_impl_Loops : Meets Try.prog 103 F_impl_Loops := by
  have h := meets_of (ann := a_impl_Loops) (ps := [.val true cNet false, .val false (.one (.sl (.one (.int .i64)))) false]) (rs := [.val false (.one .bool) true]) g_183 mixed Try.func103 (by kernel_rfl) (by kernel_rfl : Try.f103.body = some (codeOf Try.f103))
  rw [e_impl_Loops] at h
  exact h
noncomputable def fns_103 : List (FuncId × Fn) := (103, F_impl_Loops) :: fns_183
theorem g_103 : Good Try.prog ⟨tis, fns_103⟩ := g_183.cons m_impl_Loops
noncomputable def impl_OneTree_l0 (n0 : Net) (t7 : List Int) (t9 : List Int) (t13 : Int) : Option (Int ⊕ (Unit ⊕ Bool)) :=
  cond (decide (t13 < (n0.1.length : Int)))
    ((impl_Joined n0 t13 t7).bind fun t19 =>
    (impl_Joined n0 t13 t9).bind fun t23 =>
    (impl_SameOid t19 t23).bind fun t24 =>
    cond (!t24) (some (.inr (.inr false))) (some (.inl (w64 (t13 + 1)))))
    (some (.inr (.inl ())))
noncomputable def impl_OneTree (n0 : Net) : Option Bool :=
  (impl_Live n0).bind fun t7 =>
  (impl_UpLinks n0).bind fun t9 =>
  (loop (fun z => impl_OneTree_l0 n0 t7 t9 z) 0).bind (Sum.elim (fun d =>
    (impl_Loops n0 t7).bind fun t29 =>
    some (!t29)) (fun r => some r))
noncomputable def F_impl_OneTree : Fn := ⟨[.val true cNet false], [.val false (.one .bool) true], fun a => impl_OneTree a⟩
def a_impl_OneTree : List (Nat × LoopAnn) := [(0, ⟨⟨[(13, false, [.dat (.int .i64)])], []⟩,
    ⟨[], []⟩, some ⟨[(2, false, [.dat .bool])], []⟩⟩)]
theorem e_impl_OneTree : fnDen ⟨tis, fns_103⟩ a_impl_OneTree Try.f30 (codeOf Try.f30) [.val true cNet false] [.val false (.one .bool) true] = fun a => impl_OneTree a := by kernel_rfl
theorem m_impl_OneTree : Meets Try.prog 30 F_impl_OneTree := by
  have h := meets_of (ann := a_impl_OneTree) (ps := [.val true cNet false]) (rs := [.val false (.one .bool) true]) g_103 mixed Try.func30 (by kernel_rfl) (by kernel_rfl : Try.f30.body = some (codeOf Try.f30))
  rw [e_impl_OneTree] at h
  exact h
noncomputable def fns_30 : List (FuncId × Fn) := (30, F_impl_OneTree) :: fns_103
theorem g_30 : Good Try.prog ⟨tis, fns_30⟩ := g_103.cons m_impl_OneTree
noncomputable def laws_FnExactOneTree (aN0 : Net) : Option Bool :=
  (laws_szNet aN0 1048576).bind fun t9 =>
  cond (decide (t9 < 0))
    (some true)
    ((laws_toNet aN0).bind fun t13 =>
    (spec_OneTree t13).bind fun t14 =>
    (laws_toNet aN0).bind fun t16 =>
    (impl_OneTree t16).bind fun t18 =>
    cond (!(t18 == t14))
      (some false)
      ((laws_toNet aN0).bind fun t24 =>
      (laws_eqNet t16 t24).bind fun t25 =>
      cond (!t25) (some false) (some true)))
noncomputable def F_laws_FnExactOneTree : Fn := ⟨[.val true cNet false], [.val false (.one .bool) true], fun a => laws_FnExactOneTree a⟩
def a_laws_FnExactOneTree : List (Nat × LoopAnn) := []
theorem e_laws_FnExactOneTree : fnDen ⟨tis, fns_30⟩ a_laws_FnExactOneTree Try.f6 (codeOf Try.f6) [.val true cNet false] [.val false (.one .bool) true] = fun a => laws_FnExactOneTree a := by kernel_rfl
theorem m_laws_FnExactOneTree : Meets Try.prog 6 F_laws_FnExactOneTree := by
  have h := meets_of (ann := a_laws_FnExactOneTree) (ps := [.val true cNet false]) (rs := [.val false (.one .bool) true]) g_30 mixed Try.func6 (by kernel_rfl) (by kernel_rfl : Try.f6.body = some (codeOf Try.f6))
  rw [e_laws_FnExactOneTree] at h
  exact h
noncomputable def fns_6 : List (FuncId × Fn) := (6, F_laws_FnExactOneTree) :: fns_30
theorem g_6 : Good Try.prog ⟨tis, fns_6⟩ := g_30.cons m_laws_FnExactOneTree
end Go.V.W
