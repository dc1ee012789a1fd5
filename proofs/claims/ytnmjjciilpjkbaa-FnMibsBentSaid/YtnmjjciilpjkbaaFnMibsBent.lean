/- The law FnMibsBent: part of the proof that for every input it returns true. No condition. -/
import Derived.Test.YtnmjjciilpjkbaaV3
import Derived.Test.YtnmjjciilpjkbaaProg
import Derived.Test.YtnmjjciilpjkbaaChecked
import Derived.KernelRfl
namespace Go.V.W
open Go.Proofs
set_option linter.unusedVariables false
@[reducible] def cVec : Cs := .cons (.int .i64) (.cons (.int .i64) (.cons (.int .i64) (.cons (.int .i64) (.one (.int .i64)))))
@[reducible] def cPt : Cs := .cons .bool (.cons (.int .i64) (.cons .bool (.cons (.int .i64) (.cons (.int .i64) (.cons (.int .i64) (.cons (.int .i64) (.one (.int .i64))))))))
@[reducible] def cFent : Cs := .cons (.int .i64) (.cons (.int .i64) (.cons (.int .i64) (.cons (.int .i64) (.one .bool))))
@[reducible] def cVrow : Cs := .cons (.int .i64) (.cons (.int .i64) (.one (.int .i64)))
@[reducible] def cVtab : Cs := .cons (.sl cVrow) (.one (.sl (.one (.int .i64))))
@[reducible] def cBridge : Cs := .cons (.int .i64) (.cons .str (.cons (.sl cPt) (.cons (.sl cFent) (.cons (.sl cVrow) (.cons (.sl (.one (.int .i64))) (.cons (.int .i64) (.cons (.int .i64) (.cons (.int .i64) (.cons (.int .i64) (.one (.int .i64)))))))))))
@[reducible] def cVal : Cs := .cons (.int .i64) (.cons (.int .i64) (.cons .str (.one (.sl (.one (.int .i64))))))
@[reducible] def cBind : Cs := .cons (.sl (.one (.int .i64))) (.cons (.int .i64) (.cons (.int .i64) (.cons .str (.one (.sl (.one (.int .i64)))))))
@[reducible] def cL1Cur : Cs := .cons (.sl (.one (.int .u8))) (.cons (.int .i64) (.one (.int .i64)))
abbrev Vec : Type := Int × Int × Int × Int × Int
abbrev Pt : Type := Bool × Int × Bool × Int × Int × Int × Int × Int
abbrev Fent : Type := Int × Int × Int × Int × Bool
abbrev Vrow : Type := Int × Int × Int
abbrev Vtab : Type := List Vrow × List Int
abbrev Bridge : Type := Int × List UInt8 × List Pt × List Fent × List Vrow × List Int × Int × Int × Int × Int × Int
abbrev Val : Type := Int × Int × List UInt8 × List Int
abbrev Bind : Type := List Int × Int × Int × List UInt8 × List Int
abbrev L1Cur : Type := List Int × Int × Int
def tis : List (Nat × TInfo) := [(2, ⟨false, .one (.int .i64), [], 0⟩),
  (3, ⟨false, .one (.int .i64), [], 0⟩),
  (4, ⟨false, .one .bool, [], 0⟩),
  (5, ⟨false, .one (.int .u8), [], 0⟩),
  (6, ⟨false, .one (.int .u8), [], 0⟩),
  (9, ⟨false, .one .str, [], 0⟩),
  (10, ⟨false, .one .str, [], 0⟩),
  (11, ⟨false, .one .str, [], 0⟩),
  (12, ⟨false, .one (.int .u64), [], 0⟩),
  (21, ⟨false, .one (.int .i32), [], 0⟩),
  (22, ⟨false, .one (.sl cPt), [], 172⟩),
  (23, ⟨false, .one (.sl cFent), [], 174⟩),
  (24, ⟨false, .one (.sl cVrow), [], 237⟩),
  (25, ⟨false, .one (.sl (.one (.int .i64))), [], 3⟩),
  (26, ⟨true, cVtab, [(24, 0), (25, 1)], 0⟩),
  (27, ⟨true, cVtab, [(24, 0), (25, 1)], 0⟩),
  (28, ⟨true, cBridge, [(3, 0), (9, 1), (22, 2), (23, 3), (27, 4), (3, 6), (3, 7), (3, 8), (3, 9), (3, 10)], 0⟩),
  (29, ⟨true, cBridge, [(3, 0), (9, 1), (22, 2), (23, 3), (27, 4), (3, 6), (3, 7), (3, 8), (3, 9), (3, 10)], 0⟩),
  (32, ⟨false, .one (.sl cPt), [], 125⟩),
  (33, ⟨false, .one (.sl cFent), [], 127⟩),
  (34, ⟨false, .one (.sl cVrow), [], 167⟩),
  (35, ⟨true, cVtab, [(34, 0), (25, 1)], 0⟩),
  (36, ⟨true, cVtab, [(34, 0), (25, 1)], 0⟩),
  (37, ⟨true, cBridge, [(3, 0), (9, 1), (32, 2), (33, 3), (36, 4), (3, 6), (3, 7), (3, 8), (3, 9), (3, 10)], 0⟩),
  (38, ⟨true, cBridge, [(3, 0), (9, 1), (32, 2), (33, 3), (36, 4), (3, 6), (3, 7), (3, 8), (3, 9), (3, 10)], 0⟩),
  (44, ⟨false, .one (.sl (.one (.int .u8))), [], 5⟩),
  (50, ⟨true, cVal, [(3, 0), (3, 1), (9, 2), (25, 3)], 0⟩),
  (51, ⟨true, cVal, [(3, 0), (3, 1), (9, 2), (25, 3)], 0⟩),
  (52, ⟨true, cBind, [(25, 0), (51, 1)], 0⟩),
  (53, ⟨true, cBind, [(25, 0), (51, 1)], 0⟩),
  (55, ⟨false, .one (.sl cBridge), [], 29⟩),
  (56, ⟨false, .one (.sl (.cons (.int .i64) (.cons (.int .i64) (.cons (.int .i64) (.one (.int .i64)))))), [], 206⟩),
  (57, ⟨false, .one (.sl (.cons (.int .i64) (.cons .bool (.cons (.int .i64) (.cons (.int .i64) (.cons (.int .i64) (.cons (.int .i64) (.one (.int .i64))))))))), [], 211⟩),
  (58, ⟨true, .cons (.sl cBridge) (.cons (.sl (.cons (.int .i64) (.cons (.int .i64) (.cons (.int .i64) (.one (.int .i64)))))) (.one (.sl (.cons (.int .i64) (.cons .bool (.cons (.int .i64) (.cons (.int .i64) (.cons (.int .i64) (.cons (.int .i64) (.one (.int .i64))))))))))), [(55, 0), (56, 1), (57, 2)], 0⟩),
  (59, ⟨true, .cons (.sl cBridge) (.cons (.sl (.cons (.int .i64) (.cons (.int .i64) (.cons (.int .i64) (.one (.int .i64)))))) (.one (.sl (.cons (.int .i64) (.cons .bool (.cons (.int .i64) (.cons (.int .i64) (.cons (.int .i64) (.cons (.int .i64) (.one (.int .i64))))))))))), [(55, 0), (56, 1), (57, 2)], 0⟩),
  (62, ⟨false, .one (.sl cBridge), [], 38⟩),
  (63, ⟨false, .one (.sl (.cons (.int .i64) (.cons (.int .i64) (.cons (.int .i64) (.one (.int .i64)))))), [], 204⟩),
  (64, ⟨false, .one (.sl (.cons (.int .i64) (.cons .bool (.cons (.int .i64) (.cons (.int .i64) (.cons (.int .i64) (.cons (.int .i64) (.one (.int .i64))))))))), [], 208⟩),
  (65, ⟨true, .cons (.sl cBridge) (.cons (.sl (.cons (.int .i64) (.cons (.int .i64) (.cons (.int .i64) (.one (.int .i64)))))) (.one (.sl (.cons (.int .i64) (.cons .bool (.cons (.int .i64) (.cons (.int .i64) (.cons (.int .i64) (.cons (.int .i64) (.one (.int .i64))))))))))), [(62, 0), (63, 1), (64, 2)], 0⟩),
  (66, ⟨true, .cons (.sl cBridge) (.cons (.sl (.cons (.int .i64) (.cons (.int .i64) (.cons (.int .i64) (.one (.int .i64)))))) (.one (.sl (.cons (.int .i64) (.cons .bool (.cons (.int .i64) (.cons (.int .i64) (.cons (.int .i64) (.cons (.int .i64) (.one (.int .i64))))))))))), [(62, 0), (63, 1), (64, 2)], 0⟩),
  (75, ⟨false, .one (.sl cBind), [], 53⟩),
  (78, ⟨false, .one (.sl (.cons (.int .i64) (.cons (.sl (.one (.int .u8))) (.cons (.int .i64) (.cons (.int .i64) (.cons (.int .i64) (.cons (.int .i64) (.cons (.int .i64) (.cons (.sl cBind) (.cons (.int .i64) (.cons .str (.cons (.sl cPt) (.cons (.sl cFent) (.cons (.sl cVrow) (.cons (.sl (.one (.int .i64))) (.cons (.int .i64) (.cons (.int .i64) (.cons (.int .i64) (.cons (.int .i64) (.cons (.int .i64) (.cons (.int .i64) (.one (.int .i64))))))))))))))))))))))), [], 227⟩),
  (79, ⟨true, .cons (.int .i64) (.cons .str (.cons (.sl cPt) (.cons (.sl cFent) (.cons (.sl cVrow) (.cons (.sl (.one (.int .i64))) (.cons (.int .i64) (.cons (.int .i64) (.cons (.int .i64) (.cons (.int .i64) (.cons (.int .i64) (.cons .str (.cons (.sl (.cons (.int .i64) (.cons (.sl (.one (.int .u8))) (.cons (.int .i64) (.cons (.int .i64) (.cons (.int .i64) (.cons (.int .i64) (.cons (.int .i64) (.cons (.sl cBind) (.cons (.int .i64) (.cons .str (.cons (.sl cPt) (.cons (.sl cFent) (.cons (.sl cVrow) (.cons (.sl (.one (.int .i64))) (.cons (.int .i64) (.cons (.int .i64) (.cons (.int .i64) (.cons (.int .i64) (.cons (.int .i64) (.cons (.int .i64) (.one (.int .i64))))))))))))))))))))))) (.cons (.int .i64) (.one (.int .i64))))))))))))))), [(29, 0), (9, 11), (78, 12), (3, 13), (3, 14)], 0⟩),
  (80, ⟨true, .cons (.int .i64) (.cons .str (.cons (.sl cPt) (.cons (.sl cFent) (.cons (.sl cVrow) (.cons (.sl (.one (.int .i64))) (.cons (.int .i64) (.cons (.int .i64) (.cons (.int .i64) (.cons (.int .i64) (.cons (.int .i64) (.cons .str (.cons (.sl (.cons (.int .i64) (.cons (.sl (.one (.int .u8))) (.cons (.int .i64) (.cons (.int .i64) (.cons (.int .i64) (.cons (.int .i64) (.cons (.int .i64) (.cons (.sl cBind) (.cons (.int .i64) (.cons .str (.cons (.sl cPt) (.cons (.sl cFent) (.cons (.sl cVrow) (.cons (.sl (.one (.int .i64))) (.cons (.int .i64) (.cons (.int .i64) (.cons (.int .i64) (.cons (.int .i64) (.cons (.int .i64) (.cons (.int .i64) (.one (.int .i64))))))))))))))))))))))) (.cons (.int .i64) (.one (.int .i64))))))))))))))), [(29, 0), (9, 11), (78, 12), (3, 13), (3, 14)], 0⟩),
  (83, ⟨false, .one (.sl (.cons (.int .i64) (.cons (.sl (.one (.int .u8))) (.cons (.int .i64) (.cons (.int .i64) (.cons (.int .i64) (.cons (.int .i64) (.cons (.int .i64) (.cons (.sl cBind) (.cons (.int .i64) (.cons .str (.cons (.sl cPt) (.cons (.sl cFent) (.cons (.sl cVrow) (.cons (.sl (.one (.int .i64))) (.cons (.int .i64) (.cons (.int .i64) (.cons (.int .i64) (.cons (.int .i64) (.cons (.int .i64) (.cons (.int .i64) (.one (.int .i64))))))))))))))))))))))), [], 150⟩),
  (84, ⟨true, .cons (.int .i64) (.cons .str (.cons (.sl cPt) (.cons (.sl cFent) (.cons (.sl cVrow) (.cons (.sl (.one (.int .i64))) (.cons (.int .i64) (.cons (.int .i64) (.cons (.int .i64) (.cons (.int .i64) (.cons (.int .i64) (.cons .str (.cons (.sl (.cons (.int .i64) (.cons (.sl (.one (.int .u8))) (.cons (.int .i64) (.cons (.int .i64) (.cons (.int .i64) (.cons (.int .i64) (.cons (.int .i64) (.cons (.sl cBind) (.cons (.int .i64) (.cons .str (.cons (.sl cPt) (.cons (.sl cFent) (.cons (.sl cVrow) (.cons (.sl (.one (.int .i64))) (.cons (.int .i64) (.cons (.int .i64) (.cons (.int .i64) (.cons (.int .i64) (.cons (.int .i64) (.cons (.int .i64) (.one (.int .i64))))))))))))))))))))))) (.cons (.int .i64) (.one (.int .i64))))))))))))))), [(38, 0), (9, 11), (83, 12), (3, 13), (3, 14)], 0⟩),
  (85, ⟨true, .cons (.int .i64) (.cons .str (.cons (.sl cPt) (.cons (.sl cFent) (.cons (.sl cVrow) (.cons (.sl (.one (.int .i64))) (.cons (.int .i64) (.cons (.int .i64) (.cons (.int .i64) (.cons (.int .i64) (.cons (.int .i64) (.cons .str (.cons (.sl (.cons (.int .i64) (.cons (.sl (.one (.int .u8))) (.cons (.int .i64) (.cons (.int .i64) (.cons (.int .i64) (.cons (.int .i64) (.cons (.int .i64) (.cons (.sl cBind) (.cons (.int .i64) (.cons .str (.cons (.sl cPt) (.cons (.sl cFent) (.cons (.sl cVrow) (.cons (.sl (.one (.int .i64))) (.cons (.int .i64) (.cons (.int .i64) (.cons (.int .i64) (.cons (.int .i64) (.cons (.int .i64) (.cons (.int .i64) (.one (.int .i64))))))))))))))))))))))) (.cons (.int .i64) (.one (.int .i64))))))))))))))), [(38, 0), (9, 11), (83, 12), (3, 13), (3, 14)], 0⟩),
  (96, ⟨true, cVal, [(3, 0), (3, 1), (9, 2), (25, 3)], 0⟩),
  (97, ⟨true, cBind, [(25, 0), (96, 1)], 0⟩),
  (98, ⟨true, cBind, [(25, 0), (96, 1)], 0⟩),
  (122, ⟨true, cVec, [(3, 0), (3, 1), (3, 2), (3, 3), (3, 4)], 0⟩),
  (123, ⟨true, cVec, [(3, 0), (3, 1), (3, 2), (3, 3), (3, 4)], 0⟩),
  (124, ⟨true, cPt, [(4, 0), (3, 1), (4, 2), (123, 3)], 0⟩),
  (125, ⟨true, cPt, [(4, 0), (3, 1), (4, 2), (123, 3)], 0⟩),
  (126, ⟨true, cFent, [(3, 0), (3, 1), (3, 2), (3, 3), (4, 4)], 0⟩),
  (127, ⟨true, cFent, [(3, 0), (3, 1), (3, 2), (3, 3), (4, 4)], 0⟩),
  (147, ⟨true, .cons (.int .i64) (.cons (.int .i64) (.cons (.int .i64) (.cons (.int .i64) (.one (.sl cBind))))), [(3, 0), (3, 1), (3, 2), (3, 3), (75, 4)], 0⟩),
  (148, ⟨true, .cons (.int .i64) (.cons (.int .i64) (.cons (.int .i64) (.cons (.int .i64) (.one (.sl cBind))))), [(3, 0), (3, 1), (3, 2), (3, 3), (75, 4)], 0⟩),
  (149, ⟨true, .cons (.int .i64) (.cons (.sl (.one (.int .u8))) (.cons (.int .i64) (.cons (.int .i64) (.cons (.int .i64) (.cons (.int .i64) (.cons (.int .i64) (.cons (.sl cBind) (.cons (.int .i64) (.cons .str (.cons (.sl cPt) (.cons (.sl cFent) (.cons (.sl cVrow) (.cons (.sl (.one (.int .i64))) (.cons (.int .i64) (.cons (.int .i64) (.cons (.int .i64) (.cons (.int .i64) (.cons (.int .i64) (.cons (.int .i64) (.one (.int .i64))))))))))))))))))))), [(3, 0), (44, 1), (3, 2), (148, 3), (38, 8), (3, 19), (3, 20)], 0⟩),
  (150, ⟨true, .cons (.int .i64) (.cons (.sl (.one (.int .u8))) (.cons (.int .i64) (.cons (.int .i64) (.cons (.int .i64) (.cons (.int .i64) (.cons (.int .i64) (.cons (.sl cBind) (.cons (.int .i64) (.cons .str (.cons (.sl cPt) (.cons (.sl cFent) (.cons (.sl cVrow) (.cons (.sl (.one (.int .i64))) (.cons (.int .i64) (.cons (.int .i64) (.cons (.int .i64) (.cons (.int .i64) (.cons (.int .i64) (.cons (.int .i64) (.one (.int .i64))))))))))))))))))))), [(3, 0), (44, 1), (3, 2), (148, 3), (38, 8), (3, 19), (3, 20)], 0⟩),
  (166, ⟨true, cVrow, [(3, 0), (3, 1), (3, 2)], 0⟩),
  (167, ⟨true, cVrow, [(3, 0), (3, 1), (3, 2)], 0⟩),
  (170, ⟨true, cVec, [(3, 0), (3, 1), (3, 2), (3, 3), (3, 4)], 0⟩),
  (171, ⟨true, cPt, [(4, 0), (3, 1), (4, 2), (170, 3)], 0⟩),
  (172, ⟨true, cPt, [(4, 0), (3, 1), (4, 2), (170, 3)], 0⟩),
  (174, ⟨true, cFent, [(3, 0), (3, 1), (3, 2), (3, 3), (4, 4)], 0⟩),
  (180, ⟨true, cL1Cur, [(44, 0), (3, 1), (3, 2)], 0⟩),
  (181, ⟨true, cL1Cur, [(44, 0), (3, 1), (3, 2)], 0⟩),
  (184, ⟨false, .one (.sl (.one .str)), [], 9⟩),
  (203, ⟨true, .cons (.int .i64) (.cons (.int .i64) (.cons (.int .i64) (.one (.int .i64)))), [(3, 0), (3, 1), (3, 2), (3, 3)], 0⟩),
  (204, ⟨true, .cons (.int .i64) (.cons (.int .i64) (.cons (.int .i64) (.one (.int .i64)))), [(3, 0), (3, 1), (3, 2), (3, 3)], 0⟩),
  (206, ⟨true, .cons (.int .i64) (.cons (.int .i64) (.cons (.int .i64) (.one (.int .i64)))), [(3, 0), (3, 1), (3, 2), (3, 3)], 0⟩),
  (207, ⟨true, .cons (.int .i64) (.cons .bool (.cons (.int .i64) (.cons (.int .i64) (.cons (.int .i64) (.cons (.int .i64) (.one (.int .i64))))))), [(3, 0), (4, 1), (123, 2)], 0⟩),
  (208, ⟨true, .cons (.int .i64) (.cons .bool (.cons (.int .i64) (.cons (.int .i64) (.cons (.int .i64) (.cons (.int .i64) (.one (.int .i64))))))), [(3, 0), (4, 1), (123, 2)], 0⟩),
  (210, ⟨true, .cons (.int .i64) (.cons .bool (.cons (.int .i64) (.cons (.int .i64) (.cons (.int .i64) (.cons (.int .i64) (.one (.int .i64))))))), [(3, 0), (4, 1), (170, 2)], 0⟩),
  (211, ⟨true, .cons (.int .i64) (.cons .bool (.cons (.int .i64) (.cons (.int .i64) (.cons (.int .i64) (.cons (.int .i64) (.one (.int .i64))))))), [(3, 0), (4, 1), (170, 2)], 0⟩),
  (217, ⟨false, .one (.sl (.one .bool)), [], 4⟩),
  (223, ⟨false, .one (.sl cBind), [], 98⟩),
  (224, ⟨true, .cons (.int .i64) (.cons (.int .i64) (.cons (.int .i64) (.cons (.int .i64) (.one (.sl cBind))))), [(3, 0), (3, 1), (3, 2), (3, 3), (223, 4)], 0⟩),
  (225, ⟨true, .cons (.int .i64) (.cons (.int .i64) (.cons (.int .i64) (.cons (.int .i64) (.one (.sl cBind))))), [(3, 0), (3, 1), (3, 2), (3, 3), (223, 4)], 0⟩),
  (226, ⟨true, .cons (.int .i64) (.cons (.sl (.one (.int .u8))) (.cons (.int .i64) (.cons (.int .i64) (.cons (.int .i64) (.cons (.int .i64) (.cons (.int .i64) (.cons (.sl cBind) (.cons (.int .i64) (.cons .str (.cons (.sl cPt) (.cons (.sl cFent) (.cons (.sl cVrow) (.cons (.sl (.one (.int .i64))) (.cons (.int .i64) (.cons (.int .i64) (.cons (.int .i64) (.cons (.int .i64) (.cons (.int .i64) (.cons (.int .i64) (.one (.int .i64))))))))))))))))))))), [(3, 0), (44, 1), (3, 2), (225, 3), (29, 8), (3, 19), (3, 20)], 0⟩),
  (227, ⟨true, .cons (.int .i64) (.cons (.sl (.one (.int .u8))) (.cons (.int .i64) (.cons (.int .i64) (.cons (.int .i64) (.cons (.int .i64) (.cons (.int .i64) (.cons (.sl cBind) (.cons (.int .i64) (.cons .str (.cons (.sl cPt) (.cons (.sl cFent) (.cons (.sl cVrow) (.cons (.sl (.one (.int .i64))) (.cons (.int .i64) (.cons (.int .i64) (.cons (.int .i64) (.cons (.int .i64) (.cons (.int .i64) (.cons (.int .i64) (.one (.int .i64))))))))))))))))))))), [(3, 0), (44, 1), (3, 2), (225, 3), (29, 8), (3, 19), (3, 20)], 0⟩),
  (237, ⟨true, cVrow, [(3, 0), (3, 1), (3, 2)], 0⟩),
  (265, ⟨false, .one (.int .u64), [], 0⟩),
  (288, ⟨false, .one (.int .u32), [], 0⟩),
  (289, ⟨false, .one (.int .u8), [], 0⟩),
  (290, ⟨false, .one (.int .u8), [], 0⟩),
  (293, ⟨false, .one (.int .i32), [], 0⟩),
  (294, ⟨false, .one (.int .i32), [], 0⟩)]
theorem tisT : Tis Try.prog tis := Tis.of_all (by kernel_rfl)
theorem tisE : Eqs Try.prog tis := Eqs.of_all (by kernel_rfl)
theorem tisD : Deep Try.prog tis := Deep.of_all (by kernel_rfl)
theorem mixed : Try.prog.follows .mixedOrders = true := by kernel_rfl
def codeOf (fn : Func) : Code := match fn.body with | some c => c | none => .skip
theorem g_0 : Good Try.prog ⟨tis, []⟩ := ⟨tisT, tisE, fun f F h => by cases h⟩
noncomputable def spec_l17Name (l0 : List Int) : Option (List Int) :=
  (app ([1, 3, 1] : List Int) l0).bind fun zs5 =>
  some zs5
noncomputable def F_spec_l17Name : Fn := ⟨[.val false (.one (.sl (.one (.int .i64)))) false], [.val false (.one (.sl (.one (.int .i64)))) true], fun a => spec_l17Name a⟩
def a_spec_l17Name : List (Nat × LoopAnn) := []
theorem e_spec_l17Name : fnDen ⟨tis, []⟩ a_spec_l17Name Try.f107 (codeOf Try.f107) [.val false (.one (.sl (.one (.int .i64)))) false] [.val false (.one (.sl (.one (.int .i64)))) true] = fun a => spec_l17Name a := by kernel_rfl
theorem m_spec_l17Name : Meets Try.prog 107 F_spec_l17Name := by
  have h := meets_of (ann := a_spec_l17Name) (ps := [.val false (.one (.sl (.one (.int .i64)))) false]) (rs := [.val false (.one (.sl (.one (.int .i64)))) true]) g_0 mixed Try.func107 (by kernel_rfl) (by kernel_rfl : Try.f107.body = some (codeOf Try.f107))
  rw [e_spec_l17Name] at h
  exact h
noncomputable def fns_107 : List (FuncId × Fn) := (107, F_spec_l17Name) :: []
theorem g_107 : Good Try.prog ⟨tis, fns_107⟩ := g_0.cons m_spec_l17Name
noncomputable def spec_l1In (x0 : Int) (least1 : Int) (most2 : Int) : Option Bool :=
  (cond (decide (x0 ≥ least1)) (some (decide (x0 ≤ most2))) (some false)).bind fun t14 =>
  some t14
noncomputable def F_spec_l1In : Fn := ⟨[.val false (.one (.int .i64)) false, .val false (.one (.int .i64)) false, .val false (.one (.int .i64)) false], [.val false (.one .bool) true], fun a => spec_l1In a.1 a.2.1 a.2.2⟩
def a_spec_l1In : List (Nat × LoopAnn) := []
theorem e_spec_l1In : fnDen ⟨tis, fns_107⟩ a_spec_l1In Try.f113 (codeOf Try.f113) [.val false (.one (.int .i64)) false, .val false (.one (.int .i64)) false, .val false (.one (.int .i64)) false] [.val false (.one .bool) true] = fun a => spec_l1In a.1 a.2.1 a.2.2 := by kernel_rfl
theorem m_spec_l1In : Meets Try.prog 113 F_spec_l1In := by
  have h := meets_of (ann := a_spec_l1In) (ps := [.val false (.one (.int .i64)) false, .val false (.one (.int .i64)) false, .val false (.one (.int .i64)) false]) (rs := [.val false (.one .bool) true]) g_107 mixed Try.func113 (by kernel_rfl) (by kernel_rfl : Try.f113.body = some (codeOf Try.f113))
  rw [e_spec_l1In] at h
  exact h
noncomputable def fns_113 : List (FuncId × Fn) := (113, F_spec_l1In) :: fns_107
theorem g_113 : Good Try.prog ⟨tis, fns_113⟩ := g_107.cons m_spec_l1In
noncomputable def spec_VecOk (v0 : Vec) : Option Bool :=
  (spec_l1In v0.1 1 99).bind fun t5 =>
  (cond t5
    ((spec_l1In v0.2.1 0 100000).bind fun t9 =>
    some t9)
    (some false)).bind fun t10 =>
  (cond t10
    ((spec_l1In v0.2.2.1 0 10).bind fun t14 =>
    some t14)
    (some false)).bind fun t15 =>
  (cond t15
    ((spec_l1In v0.2.2.2.1 1 99).bind fun t19 =>
    some t19)
    (some false)).bind fun t20 =>
  (cond t20
    ((spec_l1In v0.2.2.2.2 0 7).bind fun t24 =>
    some t24)
    (some false)).bind fun t25 =>
  some t25
noncomputable def F_spec_VecOk : Fn := ⟨[.val true cVec false], [.val false (.one .bool) true], fun a => spec_VecOk a⟩
def a_spec_VecOk : List (Nat × LoopAnn) := []
theorem e_spec_VecOk : fnDen ⟨tis, fns_113⟩ a_spec_VecOk Try.f251 (codeOf Try.f251) [.val true cVec false] [.val false (.one .bool) true] = fun a => spec_VecOk a := by kernel_rfl
theorem m_spec_VecOk : Meets Try.prog 251 F_spec_VecOk := by
  have h := meets_of (ann := a_spec_VecOk) (ps := [.val true cVec false]) (rs := [.val false (.one .bool) true]) g_113 mixed Try.func251 (by kernel_rfl) (by kernel_rfl : Try.f251.body = some (codeOf Try.f251))
  rw [e_spec_VecOk] at h
  exact h
noncomputable def fns_251 : List (FuncId × Fn) := (251, F_spec_VecOk) :: fns_113
theorem g_251 : Good Try.prog ⟨tis, fns_251⟩ := g_113.cons m_spec_VecOk
noncomputable def spec_PtOk (p0 : Pt) : Option Bool :=
  (spec_l1In p0.2.1 1 1000).bind fun t5 =>
  (cond (!t5)
    (some true)
    ((cond (!p0.1) (some p0.2.2.1) (some false)).bind fun t14 =>
    some t14)).bind fun t15 =>
  cond t15
    (some false)
    (cond (!p0.2.2.1)
      (let t2 := p0.2.2.2.1 == 0 && (p0.2.2.2.2.1 == 0 && (p0.2.2.2.2.2.1 == 0 && (p0.2.2.2.2.2.2.1 == 0 && (p0.2.2.2.2.2.2.2 == 0))))
      some t2)
      ((spec_VecOk p0.2.2.2).bind fun t25 =>
      some t25))
noncomputable def F_spec_PtOk : Fn := ⟨[.val true cPt false], [.val false (.one .bool) true], fun a => spec_PtOk a⟩
def a_spec_PtOk : List (Nat × LoopAnn) := []
theorem e_spec_PtOk : fnDen ⟨tis, fns_251⟩ a_spec_PtOk Try.f190 (codeOf Try.f190) [.val true cPt false] [.val false (.one .bool) true] = fun a => spec_PtOk a := by kernel_rfl
theorem m_spec_PtOk : Meets Try.prog 190 F_spec_PtOk := by
  have h := meets_of (ann := a_spec_PtOk) (ps := [.val true cPt false]) (rs := [.val false (.one .bool) true]) g_251 mixed Try.func190 (by kernel_rfl) (by kernel_rfl : Try.f190.body = some (codeOf Try.f190))
  rw [e_spec_PtOk] at h
  exact h
noncomputable def fns_190 : List (FuncId × Fn) := (190, F_spec_PtOk) :: fns_251
theorem g_190 : Good Try.prog ⟨tis, fns_190⟩ := g_251.cons m_spec_PtOk
noncomputable def spec_l8Ent (e0 : Fent) : Option Bool :=
  (spec_l1In e0.1 1 99).bind fun t5 =>
  (cond t5
    ((spec_l1In e0.2.1 1 9999).bind fun t9 =>
    some t9)
    (some false)).bind fun t10 =>
  (cond t10
    ((spec_l1In e0.2.2.1 0 7).bind fun t14 =>
    some t14)
    (some false)).bind fun t15 =>
  (cond t15
    ((spec_l1In e0.2.2.2.1 0 4).bind fun t19 =>
    some t19)
    (some false)).bind fun t20 =>
  (cond t20
    ((cond (!e0.2.2.2.2) (some true) (some (e0.2.2.2.1 == 0))).bind fun t29 =>
    some t29)
    (some false)).bind fun t30 =>
  some t30
noncomputable def F_spec_l8Ent : Fn := ⟨[.val true cFent false], [.val false (.one .bool) true], fun a => spec_l8Ent a⟩
def a_spec_l8Ent : List (Nat × LoopAnn) := []
theorem e_spec_l8Ent : fnDen ⟨tis, fns_190⟩ a_spec_l8Ent Try.f222 (codeOf Try.f222) [.val true cFent false] [.val false (.one .bool) true] = fun a => spec_l8Ent a := by kernel_rfl
theorem m_spec_l8Ent : Meets Try.prog 222 F_spec_l8Ent := by
  have h := meets_of (ann := a_spec_l8Ent) (ps := [.val true cFent false]) (rs := [.val false (.one .bool) true]) g_190 mixed Try.func222 (by kernel_rfl) (by kernel_rfl : Try.f222.body = some (codeOf Try.f222))
  rw [e_spec_l8Ent] at h
  exact h
noncomputable def fns_222 : List (FuncId × Fn) := (222, F_spec_l8Ent) :: fns_190
theorem g_222 : Good Try.prog ⟨tis, fns_222⟩ := g_190.cons m_spec_l8Ent
noncomputable def spec_l8Ahead (e0 : Fent) (tag1 : Int) (mac2 : Int) : Option Bool :=
  cond (e0.1 != tag1) (some (decide (e0.1 < tag1))) (some (decide (e0.2.1 < mac2)))
noncomputable def F_spec_l8Ahead : Fn := ⟨[.val true cFent false, .val false (.one (.int .i64)) false, .val false (.one (.int .i64)) false], [.val false (.one .bool) true], fun a => spec_l8Ahead a.1 a.2.1 a.2.2⟩
def a_spec_l8Ahead : List (Nat × LoopAnn) := []
theorem e_spec_l8Ahead : fnDen ⟨tis, fns_222⟩ a_spec_l8Ahead Try.f252 (codeOf Try.f252) [.val true cFent false, .val false (.one (.int .i64)) false, .val false (.one (.int .i64)) false] [.val false (.one .bool) true] = fun a => spec_l8Ahead a.1 a.2.1 a.2.2 := by kernel_rfl
theorem m_spec_l8Ahead : Meets Try.prog 252 F_spec_l8Ahead := by
  have h := meets_of (ann := a_spec_l8Ahead) (ps := [.val true cFent false, .val false (.one (.int .i64)) false, .val false (.one (.int .i64)) false]) (rs := [.val false (.one .bool) true]) g_222 mixed Try.func252 (by kernel_rfl) (by kernel_rfl : Try.f252.body = some (codeOf Try.f252))
  rw [e_spec_l8Ahead] at h
  exact h
noncomputable def fns_252 : List (FuncId × Fn) := (252, F_spec_l8Ahead) :: fns_222
theorem g_252 : Good Try.prog ⟨tis, fns_252⟩ := g_222.cons m_spec_l8Ahead
noncomputable def spec_FdbOk_l0 (l0 : List Fent) (i3 : Int) : Option (Int ⊕ (Unit ⊕ Bool)) :=
  cond (decide (i3 < (l0.length : Int)))
    ((at? l0 i3).bind fun x12 =>
    (spec_l8Ent x12).bind fun t14 =>
    (cond (!t14)
      (some true)
      ((cond (decide (i3 > 0))
        ((at? l0 (w64 (i3 - 1))).bind fun x23 =>
        (at? l0 i3).bind fun x27 =>
        (at? l0 i3).bind fun x32 =>
        (spec_l8Ahead x23 x27.1 x32.2.1).bind fun t35 =>
        some (!t35))
        (some false)).bind fun t37 =>
      some t37)).bind fun t38 =>
    cond t38 (some (.inr (.inr false))) (some (.inl (w64 (i3 + 1)))))
    (some (.inr (.inl ())))
noncomputable def spec_FdbOk (l0 : List Fent) : Option Bool :=
  (loop (fun z => spec_FdbOk_l0 l0 z) 0).bind (Sum.elim (fun d =>
    let t2 := decide ((l0.length : Int) ≤ 12)
    some t2) (fun r => some r))
noncomputable def F_spec_FdbOk : Fn := ⟨[.val false (.one (.sl cFent)) false], [.val false (.one .bool) true], fun a => spec_FdbOk a⟩
def a_spec_FdbOk : List (Nat × LoopAnn) := [(0, ⟨⟨[(3, false, [.dat (.int .i64)]), (17, false, [.undef]), (18, false, [.undef]), (19, false, [.undef]), (20, false, [.undef]), (21, false, [.undef]), (22, false, [.undef]), (23, false, [.undef]), (24, false, [.undef]), (25, false, [.undef]), (26, false, [.undef]), (27, false, [.undef]), (28, false, [.undef]), (29, false, [.undef]), (30, false, [.undef]), (31, false, [.undef]), (32, false, [.undef]), (33, false, [.undef]), (34, false, [.undef]), (35, false, [.undef]), (36, false, [.undef]), (37, false, [.undef])], []⟩,
    ⟨[], []⟩, some ⟨[(2, false, [.dat .bool])], []⟩⟩)]
theorem e_spec_FdbOk : fnDen ⟨tis, fns_252⟩ a_spec_FdbOk Try.f191 (codeOf Try.f191) [.val false (.one (.sl cFent)) false] [.val false (.one .bool) true] = fun a => spec_FdbOk a := by kernel_rfl
theorem m_spec_FdbOk : Meets Try.prog 191 F_spec_FdbOk := by
  have h := meets_of (ann := a_spec_FdbOk) (ps := [.val false (.one (.sl cFent)) false]) (rs := [.val false (.one .bool) true]) g_252 mixed Try.func191 (by kernel_rfl) (by kernel_rfl : Try.f191.body = some (codeOf Try.f191))
  rw [e_spec_FdbOk] at h
  exact h
noncomputable def fns_191 : List (FuncId × Fn) := (191, F_spec_FdbOk) :: fns_252
theorem g_191 : Good Try.prog ⟨tis, fns_191⟩ := g_252.cons m_spec_FdbOk
noncomputable def spec_RowAt_l0 (v0 : Vtab) (id1 : Int) (i5 : Int) : Option (Int ⊕ (Unit ⊕ Int)) :=
  cond (decide (i5 < (v0.1.length : Int)))
    ((at? v0.1 i5).bind fun x16 =>
    cond (x16.1 == id1) (some (.inr (.inr i5))) (some (.inl (w64 (i5 + 1)))))
    (some (.inr (.inl ())))
noncomputable def spec_RowAt (v0 : Vtab) (id1 : Int) : Option Int :=
  (loop (fun z => spec_RowAt_l0 v0 id1 z) 0).bind (Sum.elim (fun d =>
    some (-1)) (fun r => some r))
noncomputable def F_spec_RowAt : Fn := ⟨[.val true cVtab false, .val false (.one (.int .i64)) false], [.val false (.one (.int .i64)) true], fun a => spec_RowAt a.1 a.2⟩
def a_spec_RowAt : List (Nat × LoopAnn) := [(0, ⟨⟨[(5, false, [.dat (.int .i64)])], []⟩,
    ⟨[], []⟩, some ⟨[(4, false, [.dat (.int .i64)])], []⟩⟩)]
theorem e_spec_RowAt : fnDen ⟨tis, fns_191⟩ a_spec_RowAt Try.f253 (codeOf Try.f253) [.val true cVtab false, .val false (.one (.int .i64)) false] [.val false (.one (.int .i64)) true] = fun a => spec_RowAt a.1 a.2 := by kernel_rfl
theorem m_spec_RowAt : Meets Try.prog 253 F_spec_RowAt := by
  have h := meets_of (ann := a_spec_RowAt) (ps := [.val true cVtab false, .val false (.one (.int .i64)) false]) (rs := [.val false (.one (.int .i64)) true]) g_191 mixed Try.func253 (by kernel_rfl) (by kernel_rfl : Try.f253.body = some (codeOf Try.f253))
  rw [e_spec_RowAt] at h
  exact h
noncomputable def fns_253 : List (FuncId × Fn) := (253, F_spec_RowAt) :: fns_191
theorem g_253 : Good Try.prog ⟨tis, fns_253⟩ := g_191.cons m_spec_RowAt
noncomputable def spec_VtabOk_l0 (p0 : Vtab) (t27 : Int) (t6 : Int) : Option (Int ⊕ (Unit ⊕ Bool)) :=
  cond (decide (t6 < (p0.1.length : Int)))
    ((at? p0.1 t6).bind fun x39 =>
    (spec_l1In x39.1 1 99).bind fun t43 =>
    (cond (!t43)
      (some true)
      ((spec_l1In x39.2.1 0 (w64 (t27 - 1))).bind fun t49 =>
      some (!t49))).bind fun t51 =>
    (cond t51
      (some true)
      ((spec_l1In x39.2.2 0 (w64 (t27 - 1))).bind fun t56 =>
      some (!t56))).bind fun t58 =>
    (cond t58 (some true) (some ((band .i64 x39.2.2 x39.2.1) != x39.2.2))).bind fun t68 =>
    (cond t68
      (some true)
      ((cond (decide (t6 > 0))
        ((at? p0.1 (w64 (t6 - 1))).bind fun x77 =>
        some (decide (x77.1 ≥ x39.1)))
        (some false)).bind fun t83 =>
      some t83)).bind fun t84 =>
    cond t84 (some (.inr (.inr false))) (some (.inl (w64 (t6 + 1)))))
    (some (.inr (.inl ())))
noncomputable def spec_VtabOk_l2 (p0 : Vtab) (t8 : Int) : Option (Int ⊕ (Unit ⊕ Bool)) :=
  cond (decide (t8 < (p0.2.length : Int)))
    ((at? p0.2 t8).bind fun x96 =>
    (spec_RowAt p0 x96).bind fun t98 =>
    cond (decide (t98 < 0)) (some (.inr (.inr false))) (some (.inl (w64 (t8 + 1)))))
    (some (.inr (.inl ())))
noncomputable def spec_VtabOk (p0 : Vtab) (i1 : Int) : Option Bool :=
  (spec_l1In i1 1 6).bind fun t10 =>
  (cond (!t10) (some true) (some ((p0.2.length : Int) != i1))).bind fun t18 =>
  (cond t18 (some true) (some (decide ((p0.1.length : Int) > 6)))).bind fun t24 =>
  cond t24
    (some false)
    ((shl .i64 1 (IntKind.u64.wrap (i1))).bind fun t27 =>
    (loop (fun z => spec_VtabOk_l0 p0 t27 z) 0).bind (Sum.elim (fun d =>
      (loop (fun z => spec_VtabOk_l2 p0 z) 0).bind (Sum.elim (fun d_1 =>
        some true) (fun r => some r))) (fun r_1 => some r_1)))
noncomputable def F_spec_VtabOk : Fn := ⟨[.val true cVtab false, .val false (.one (.int .i64)) false], [.val false (.one .bool) true], fun a => spec_VtabOk a.1 a.2⟩
def a_spec_VtabOk : List (Nat × LoopAnn) := [(0, ⟨⟨[(6, false, [.dat (.int .i64)]), (46, false, [.undef]), (47, false, [.undef]), (48, false, [.undef]), (49, false, [.undef]), (50, false, [.undef]), (53, false, [.undef]), (54, false, [.undef]), (55, false, [.undef]), (56, false, [.undef]), (57, false, [.undef]), (60, false, [.undef]), (61, false, [.undef]), (62, false, [.undef]), (63, false, [.undef]), (64, false, [.undef]), (65, false, [.undef]), (66, false, [.undef]), (67, false, [.undef]), (70, false, [.undef]), (71, false, [.undef]), (72, false, [.undef]), (73, false, [.undef]), (74, false, [.undef]), (75, false, [.undef]), (76, false, [.undef]), (77, false, [.undef]), (78, false, [.undef]), (79, false, [.undef]), (80, false, [.undef]), (81, false, [.undef]), (82, false, [.undef]), (83, false, [.undef])], []⟩,
    ⟨[], []⟩, some ⟨[(4, false, [.dat .bool])], []⟩⟩),
  (2, ⟨⟨[(8, false, [.dat (.int .i64)])], []⟩,
    ⟨[], []⟩, some ⟨[(4, false, [.dat .bool])], []⟩⟩)]
theorem e_spec_VtabOk : fnDen ⟨tis, fns_253⟩ a_spec_VtabOk Try.f192 (codeOf Try.f192) [.val true cVtab false, .val false (.one (.int .i64)) false] [.val false (.one .bool) true] = fun a => spec_VtabOk a.1 a.2 := by kernel_rfl
theorem m_spec_VtabOk : Meets Try.prog 192 F_spec_VtabOk := by
  have h := meets_of (ann := a_spec_VtabOk) (ps := [.val true cVtab false, .val false (.one (.int .i64)) false]) (rs := [.val false (.one .bool) true]) g_253 mixed Try.func192 (by kernel_rfl) (by kernel_rfl : Try.f192.body = some (codeOf Try.f192))
  rw [e_spec_VtabOk] at h
  exact h
noncomputable def fns_192 : List (FuncId × Fn) := (192, F_spec_VtabOk) :: fns_253
theorem g_192 : Good Try.prog ⟨tis, fns_192⟩ := g_253.cons m_spec_VtabOk
noncomputable def spec_l11Counts (b0 : Bridge) : Option Bool :=
  (spec_l1In b0.2.2.2.2.2.2.1 0 1000000).bind fun t5 =>
  (cond t5
    ((spec_l1In b0.2.2.2.2.2.2.2.1 0 1000000).bind fun t9 =>
    some t9)
    (some false)).bind fun t10 =>
  (cond t10
    ((spec_l1In b0.2.2.2.2.2.2.2.2.1 0 1000000).bind fun t14 =>
    some t14)
    (some false)).bind fun t15 =>
  (cond t15
    ((spec_l1In b0.2.2.2.2.2.2.2.2.2.1 0 1000000).bind fun t19 =>
    some t19)
    (some false)).bind fun t20 =>
  (cond t20
    ((spec_l1In b0.2.2.2.2.2.2.2.2.2.2 0 1000000).bind fun t24 =>
    some t24)
    (some false)).bind fun t25 =>
  some t25
noncomputable def F_spec_l11Counts : Fn := ⟨[.val true cBridge false], [.val false (.one .bool) true], fun a => spec_l11Counts a⟩
def a_spec_l11Counts : List (Nat × LoopAnn) := []
theorem e_spec_l11Counts : fnDen ⟨tis, fns_192⟩ a_spec_l11Counts Try.f193 (codeOf Try.f193) [.val true cBridge false] [.val false (.one .bool) true] = fun a => spec_l11Counts a := by kernel_rfl
theorem m_spec_l11Counts : Meets Try.prog 193 F_spec_l11Counts := by
  have h := meets_of (ann := a_spec_l11Counts) (ps := [.val true cBridge false]) (rs := [.val false (.one .bool) true]) g_192 mixed Try.func193 (by kernel_rfl) (by kernel_rfl : Try.f193.body = some (codeOf Try.f193))
  rw [e_spec_l11Counts] at h
  exact h
noncomputable def fns_193 : List (FuncId × Fn) := (193, F_spec_l11Counts) :: fns_192
theorem g_193 : Good Try.prog ⟨tis, fns_193⟩ := g_192.cons m_spec_l11Counts
noncomputable def spec_BridgeOk_l0 (b0 : Bridge) (i3 : Int) : Option (Int ⊕ (Unit ⊕ Bool)) :=
  cond (decide (i3 < (b0.2.2.1.length : Int)))
    ((at? b0.2.2.1 i3).bind fun x14 =>
    (spec_PtOk x14).bind fun t16 =>
    cond (!t16) (some (.inr (.inr false))) (some (.inl (w64 (i3 + 1)))))
    (some (.inr (.inl ())))
noncomputable def spec_BridgeOk (b0 : Bridge) : Option Bool :=
  (loop (fun z => spec_BridgeOk_l0 b0 z) 0).bind (Sum.elim (fun d =>
    (spec_l1In b0.1 1 99).bind fun t20 =>
    (cond t20 (some (decide ((b0.2.1.length : Int) ≤ 10))) (some false)).bind fun t26 =>
    (cond t26
      ((spec_l1In (b0.2.2.1.length : Int) 1 6).bind fun t31 =>
      some t31)
      (some false)).bind fun t32 =>
    (cond t32
      ((spec_FdbOk b0.2.2.2.1).bind fun t36 =>
      some t36)
      (some false)).bind fun t37 =>
    (cond t37
      ((spec_VtabOk (b0.2.2.2.2.1, b0.2.2.2.2.2.1) (b0.2.2.1.length : Int)).bind fun t44 =>
      some t44)
      (some false)).bind fun t45 =>
    (cond t45
      ((spec_l11Counts b0).bind fun t48 =>
      some t48)
      (some false)).bind fun t49 =>
    some t49) (fun r => some r))
noncomputable def F_spec_BridgeOk : Fn := ⟨[.val true cBridge false], [.val false (.one .bool) true], fun a => spec_BridgeOk a⟩
def a_spec_BridgeOk : List (Nat × LoopAnn) := [(0, ⟨⟨[(3, false, [.dat (.int .i64)])], []⟩,
    ⟨[], []⟩, some ⟨[(2, false, [.dat .bool])], []⟩⟩)]
theorem e_spec_BridgeOk : fnDen ⟨tis, fns_193⟩ a_spec_BridgeOk Try.f116 (codeOf Try.f116) [.val true cBridge false] [.val false (.one .bool) true] = fun a => spec_BridgeOk a := by kernel_rfl
theorem m_spec_BridgeOk : Meets Try.prog 116 F_spec_BridgeOk := by
  have h := meets_of (ann := a_spec_BridgeOk) (ps := [.val true cBridge false]) (rs := [.val false (.one .bool) true]) g_193 mixed Try.func116 (by kernel_rfl) (by kernel_rfl : Try.f116.body = some (codeOf Try.f116))
  rw [e_spec_BridgeOk] at h
  exact h
noncomputable def fns_116 : List (FuncId × Fn) := (116, F_spec_BridgeOk) :: fns_193
theorem g_116 : Good Try.prog ⟨tis, fns_116⟩ := g_193.cons m_spec_BridgeOk
noncomputable def spec_l3Int (n0 : Int) : Option Val :=
  some (2, n0, [], [])
noncomputable def F_spec_l3Int : Fn := ⟨[.val false (.one (.int .i64)) false], [.val true cVal true], fun a => spec_l3Int a⟩
def a_spec_l3Int : List (Nat × LoopAnn) := []
theorem e_spec_l3Int : fnDen ⟨tis, fns_116⟩ a_spec_l3Int Try.f207 (codeOf Try.f207) [.val false (.one (.int .i64)) false] [.val true cVal true] = fun a => spec_l3Int a := by kernel_rfl
theorem m_spec_l3Int : Meets Try.prog 207 F_spec_l3Int := by
  have h := meets_of (ann := a_spec_l3Int) (ps := [.val false (.one (.int .i64)) false]) (rs := [.val true cVal true]) g_116 mixed Try.func207 (by kernel_rfl) (by kernel_rfl : Try.f207.body = some (codeOf Try.f207))
  rw [e_spec_l3Int] at h
  exact h
noncomputable def fns_207 : List (FuncId × Fn) := (207, F_spec_l3Int) :: fns_116
theorem g_207 : Good Try.prog ⟨tis, fns_207⟩ := g_116.cons m_spec_l3Int
noncomputable def spec_l17Add (out0 : List Bind) (name1 : List Int) (n2 : Int) : Option (List Bind) :=
  (spec_l17Name name1).bind fun t9 =>
  (spec_l3Int n2).bind fun t11 =>
  (app out0 [(t9, t11.1, t11.2.1, t11.2.2.1, t11.2.2.2)]).bind fun zs14 =>
  some zs14
noncomputable def F_spec_l17Add : Fn := ⟨[.val false (.one (.sl cBind)) true, .val false (.one (.sl (.one (.int .i64)))) false, .val false (.one (.int .i64)) false], [.val false (.one (.sl cBind)) true], fun a => spec_l17Add a.1 a.2.1 a.2.2⟩
def a_spec_l17Add : List (Nat × LoopAnn) := []
theorem e_spec_l17Add : fnDen ⟨tis, fns_207⟩ a_spec_l17Add Try.f139 (codeOf Try.f139) [.val false (.one (.sl cBind)) true, .val false (.one (.sl (.one (.int .i64)))) false, .val false (.one (.int .i64)) false] [.val false (.one (.sl cBind)) true] = fun a => spec_l17Add a.1 a.2.1 a.2.2 := by kernel_rfl
theorem m_spec_l17Add : Meets Try.prog 139 F_spec_l17Add := by
  have h := meets_of (ann := a_spec_l17Add) (ps := [.val false (.one (.sl cBind)) true, .val false (.one (.sl (.one (.int .i64)))) false, .val false (.one (.int .i64)) false]) (rs := [.val false (.one (.sl cBind)) true]) g_207 mixed Try.func139 (by kernel_rfl) (by kernel_rfl : Try.f139.body = some (codeOf Try.f139))
  rw [e_spec_l17Add] at h
  exact h
noncomputable def fns_139 : List (FuncId × Fn) := (139, F_spec_l17Add) :: fns_207
theorem g_139 : Good Try.prog ⟨tis, fns_139⟩ := g_207.cons m_spec_l17Add
noncomputable def spec_StepVec (v0 : Vec) (cost1 : Int) : Option (Vec × Bool) :=
  (spec_VecOk v0).bind fun t8 =>
  (cond (!t8)
    (some true)
    ((spec_l1In cost1 1 1000).bind fun t12 =>
    some (!t12))).bind fun t14 =>
  cond t14
    (some (v0, false))
    ((spec_VecOk (v0.1, w64 (v0.2.1 + cost1), w64 (v0.2.2.1 + 1), v0.2.2.2.1, v0.2.2.2.2)).bind fun t27 =>
    cond (!t27)
      (some (v0, false))
      (some ((v0.1, w64 (v0.2.1 + cost1), w64 (v0.2.2.1 + 1), v0.2.2.2.1, v0.2.2.2.2), true)))
noncomputable def F_spec_StepVec : Fn := ⟨[.val true cVec false, .val false (.one (.int .i64)) false], [.val true cVec true, .val false (.one .bool) true], fun a => spec_StepVec a.1 a.2⟩
def a_spec_StepVec : List (Nat × LoopAnn) := []
theorem e_spec_StepVec : fnDen ⟨tis, fns_139⟩ a_spec_StepVec Try.f232 (codeOf Try.f232) [.val true cVec false, .val false (.one (.int .i64)) false] [.val true cVec true, .val false (.one .bool) true] = fun a => spec_StepVec a.1 a.2 := by kernel_rfl
theorem m_spec_StepVec : Meets Try.prog 232 F_spec_StepVec := by
  have h := meets_of (ann := a_spec_StepVec) (ps := [.val true cVec false, .val false (.one (.int .i64)) false]) (rs := [.val true cVec true, .val false (.one .bool) true]) g_139 mixed Try.func232 (by kernel_rfl) (by kernel_rfl : Try.f232.body = some (codeOf Try.f232))
  rw [e_spec_StepVec] at h
  exact h
noncomputable def fns_232 : List (FuncId × Fn) := (232, F_spec_StepVec) :: fns_139
theorem g_232 : Good Try.prog ⟨tis, fns_232⟩ := g_139.cons m_spec_StepVec
noncomputable def spec_LessVec (a0 : Vec) (b1 : Vec) : Option Bool :=
  cond (a0.1 != b1.1)
    (some (decide (a0.1 < b1.1)))
    (cond (a0.2.1 != b1.2.1)
      (some (decide (a0.2.1 < b1.2.1)))
      (cond (a0.2.2.2.1 != b1.2.2.2.1)
        (let t4 := decide (a0.2.2.2.1 < b1.2.2.2.1)
        some t4)
        (let t4_1 := decide (a0.2.2.2.2 < b1.2.2.2.2)
        some t4_1)))
noncomputable def F_spec_LessVec : Fn := ⟨[.val true cVec false, .val true cVec false], [.val false (.one .bool) true], fun a => spec_LessVec a.1 a.2⟩
def a_spec_LessVec : List (Nat × LoopAnn) := []
theorem e_spec_LessVec : fnDen ⟨tis, fns_232⟩ a_spec_LessVec Try.f233 (codeOf Try.f233) [.val true cVec false, .val true cVec false] [.val false (.one .bool) true] = fun a => spec_LessVec a.1 a.2 := by kernel_rfl
theorem m_spec_LessVec : Meets Try.prog 233 F_spec_LessVec := by
  have h := meets_of (ann := a_spec_LessVec) (ps := [.val true cVec false, .val true cVec false]) (rs := [.val false (.one .bool) true]) g_232 mixed Try.func233 (by kernel_rfl) (by kernel_rfl : Try.f233.body = some (codeOf Try.f233))
  rw [e_spec_LessVec] at h
  exact h
noncomputable def fns_233 : List (FuncId × Fn) := (233, F_spec_LessVec) :: fns_232
theorem g_233 : Good Try.prog ⟨tis, fns_233⟩ := g_232.cons m_spec_LessVec
noncomputable def spec_BestVec_l0 (p0 : Int) (i1 : List Pt) (t8 : Int) (t9 : Int) (b0 : Int) (b1 : Int) (b2 : Int) (b3 : Int) (b4 : Int) (b0_1 : Int) (b1_1 : Int) (b2_1 : Int) (b3_1 : Int) (b4_1 : Int) : Option ((Int × Int × Int × Int × Int × Int × Int × Int × Int × Int × Int × Int) ⊕ (Int × Int × Int × Int × Int × Int × Int × Int × Int × Int × Int)) :=
  cond (decide (t9 < (i1.length : Int)))
    ((at? i1 t9).bind fun x24 =>
    (cond (!x24.1)
      (some true)
      ((at? i1 t9).bind fun x31 =>
      some (!x31.2.2.1))).bind fun t35 =>
    cond t35
      (some (.inl (t8, w64 (t9 + 1), b0, b1, b2, b3, b4, b0_1, b1_1, b2_1, b3_1, b4_1)))
      ((at? i1 t9).bind fun x39 =>
      (at? i1 t9).bind fun x44 =>
      (spec_StepVec x39.2.2.2 x44.2.1).bind fun t47 =>
      (cond t47.2 (some (decide (t47.1.1 < p0))) (some false)).bind fun t56 =>
      (cond t56
        ((cond (decide (t8 < 0))
          (some true)
          ((spec_LessVec t47.1 (b0_1, b1_1, b2_1, b3_1, b4_1)).bind fun t63 =>
          some t63)).bind fun t64 =>
        some t64)
        (some false)).bind fun t65 =>
      cond t65
        (some (.inl (t9, w64 (t9 + 1), t47.1.1, t47.1.2.1, t47.1.2.2.1, p0, 0, t47.1.1, t47.1.2.1, t47.1.2.2.1, t47.1.2.2.2.1, t47.1.2.2.2.2)))
        (some (.inl (t8, w64 (t9 + 1), b0, b1, b2, b3, b4, b0_1, b1_1, b2_1, b3_1, b4_1)))))
    (some (.inr (t8, b0, b1, b2, b3, b4, b0_1, b1_1, b2_1, b3_1, b4_1)))
noncomputable def spec_BestVec (p0 : Int) (i1 : List Pt) : Option (Vec × Int) :=
  (loop (fun z => spec_BestVec_l0 p0 i1 z.1 z.2.1 z.2.2.1 z.2.2.2.1 z.2.2.2.2.1 z.2.2.2.2.2.1 z.2.2.2.2.2.2.1 z.2.2.2.2.2.2.2.1 z.2.2.2.2.2.2.2.2.1 z.2.2.2.2.2.2.2.2.2.1 z.2.2.2.2.2.2.2.2.2.2.1 z.2.2.2.2.2.2.2.2.2.2.2) ((-1), 0, p0, 0, 0, p0, 0, 0, 0, 0, 0, 0)).bind fun d =>
  some ((d.2.1, d.2.2.1, d.2.2.2.1, d.2.2.2.2.1, d.2.2.2.2.2.1), d.1)
noncomputable def F_spec_BestVec : Fn := ⟨[.val false (.one (.int .i64)) false, .val false (.one (.sl cPt)) false], [.val true cVec true, .val false (.one (.int .i64)) true], fun a => spec_BestVec a.1 a.2⟩
def a_spec_BestVec : List (Nat × LoopAnn) := [(0, ⟨⟨[(8, false, [.dat (.int .i64)]), (9, false, [.dat (.int .i64)]), (29, false, [.undef]), (30, false, [.undef]), (31, false, [.undef]), (32, false, [.undef]), (33, false, [.undef]), (34, false, [.undef]), (52, false, [.undef]), (53, false, [.undef]), (54, false, [.undef]), (55, false, [.undef]), (58, false, [.undef]), (59, false, [.undef]), (60, false, [.undef]), (61, false, [.undef]), (62, false, [.undef]), (63, false, [.undef]), (64, false, [.undef])], [(266240, .box [.dat (.int .i64), .dat (.int .i64), .dat (.int .i64), .dat (.int .i64), .dat (.int .i64)]), (526336, .box [.dat (.int .i64), .dat (.int .i64), .dat (.int .i64), .dat (.int .i64), .dat (.int .i64)])]⟩,
    ⟨[(8, false, [.dat (.int .i64)])], [(266240, .box [.dat (.int .i64), .dat (.int .i64), .dat (.int .i64), .dat (.int .i64), .dat (.int .i64)]), (526336, .box [.dat (.int .i64), .dat (.int .i64), .dat (.int .i64), .dat (.int .i64), .dat (.int .i64)])]⟩, none⟩)]
theorem e_spec_BestVec : fnDen ⟨tis, fns_233⟩ a_spec_BestVec Try.f167 (codeOf Try.f167) [.val false (.one (.int .i64)) false, .val false (.one (.sl cPt)) false] [.val true cVec true, .val false (.one (.int .i64)) true] = fun a => spec_BestVec a.1 a.2 := by kernel_rfl
theorem m_spec_BestVec : Meets Try.prog 167 F_spec_BestVec := by
  have h := meets_of (ann := a_spec_BestVec) (ps := [.val false (.one (.int .i64)) false, .val false (.one (.sl cPt)) false]) (rs := [.val true cVec true, .val false (.one (.int .i64)) true]) g_233 mixed Try.func167 (by kernel_rfl) (by kernel_rfl : Try.f167.body = some (codeOf Try.f167))
  rw [e_spec_BestVec] at h
  exact h
noncomputable def fns_167 : List (FuncId × Fn) := (167, F_spec_BestVec) :: fns_233
theorem g_167 : Good Try.prog ⟨tis, fns_167⟩ := g_233.cons m_spec_BestVec
noncomputable def spec_SayVec (id0 : Int) (l1 : List Pt) (port2 : Int) : Option Vec :=
  (spec_BestVec id0 l1).bind fun t12 =>
  some (t12.1.1, t12.1.2.1, t12.1.2.2.1, t12.1.2.2.2.1, port2)
noncomputable def F_spec_SayVec : Fn := ⟨[.val false (.one (.int .i64)) false, .val false (.one (.sl cPt)) false, .val false (.one (.int .i64)) false], [.val true cVec true], fun a => spec_SayVec a.1 a.2.1 a.2.2⟩
def a_spec_SayVec : List (Nat × LoopAnn) := []
theorem e_spec_SayVec : fnDen ⟨tis, fns_167⟩ a_spec_SayVec Try.f263 (codeOf Try.f263) [.val false (.one (.int .i64)) false, .val false (.one (.sl cPt)) false, .val false (.one (.int .i64)) false] [.val true cVec true] = fun a => spec_SayVec a.1 a.2.1 a.2.2 := by kernel_rfl
theorem m_spec_SayVec : Meets Try.prog 263 F_spec_SayVec := by
  have h := meets_of (ann := a_spec_SayVec) (ps := [.val false (.one (.int .i64)) false, .val false (.one (.sl cPt)) false, .val false (.one (.int .i64)) false]) (rs := [.val true cVec true]) g_167 mixed Try.func263 (by kernel_rfl) (by kernel_rfl : Try.f263.body = some (codeOf Try.f263))
  rw [e_spec_SayVec] at h
  exact h
noncomputable def fns_263 : List (FuncId × Fn) := (263, F_spec_SayVec) :: fns_167
theorem g_263 : Good Try.prog ⟨tis, fns_263⟩ := g_167.cons m_spec_SayVec
noncomputable def spec_RoleOf (id0 : Int) (l1 : List Pt) (port2 : Int) : Option Int :=
  (spec_l1In port2 0 (w64 ((l1.length : Int) - 1))).bind fun t13 =>
  (cond (!t13)
    (some true)
    ((at? l1 port2).bind fun x18 =>
    some (!x18.1))).bind fun t22 =>
  cond t22
    (some 4)
    ((spec_BestVec id0 l1).bind fun t26 =>
    cond (t26.2 == port2)
      (some 1)
      ((at? l1 port2).bind fun x36 =>
      (cond (!x36.2.2.1)
        (some true)
        ((spec_SayVec id0 l1 port2).bind fun t44 =>
        (at? l1 port2).bind fun x47 =>
        (spec_LessVec t44 x47.2.2.2).bind fun t50 =>
        some t50)).bind fun t51 =>
      cond t51 (some 2) (some 3)))
noncomputable def F_spec_RoleOf : Fn := ⟨[.val false (.one (.int .i64)) false, .val false (.one (.sl cPt)) false, .val false (.one (.int .i64)) false], [.val false (.one (.int .i64)) true], fun a => spec_RoleOf a.1 a.2.1 a.2.2⟩
def a_spec_RoleOf : List (Nat × LoopAnn) := []
theorem e_spec_RoleOf : fnDen ⟨tis, fns_263⟩ a_spec_RoleOf Try.f208 (codeOf Try.f208) [.val false (.one (.int .i64)) false, .val false (.one (.sl cPt)) false, .val false (.one (.int .i64)) false] [.val false (.one (.int .i64)) true] = fun a => spec_RoleOf a.1 a.2.1 a.2.2 := by kernel_rfl
theorem m_spec_RoleOf : Meets Try.prog 208 F_spec_RoleOf := by
  have h := meets_of (ann := a_spec_RoleOf) (ps := [.val false (.one (.int .i64)) false, .val false (.one (.sl cPt)) false, .val false (.one (.int .i64)) false]) (rs := [.val false (.one (.int .i64)) true]) g_263 mixed Try.func208 (by kernel_rfl) (by kernel_rfl : Try.f208.body = some (codeOf Try.f208))
  rw [e_spec_RoleOf] at h
  exact h
noncomputable def fns_208 : List (FuncId × Fn) := (208, F_spec_RoleOf) :: fns_263
theorem g_208 : Good Try.prog ⟨tis, fns_208⟩ := g_263.cons m_spec_RoleOf
noncomputable def spec_l17Port (b0 : Bridge) (c1 : Int) (p2 : Int) : Option Int :=
  cond (c1 == 1)
    ((at? b0.2.2.1 p2).bind fun x13 =>
    cond x13.1 (some 1) (some 0))
    (cond (c1 == 2)
      ((at? b0.2.2.1 p2).bind fun x21 =>
      some x21.2.1)
      (cond (c1 == 3)
        ((spec_RoleOf b0.1 b0.2.2.1 p2).bind fun t31 =>
        some t31)
        ((at? b0.2.2.2.2.2.1 p2).bind fun x36 =>
        some x36)))
noncomputable def F_spec_l17Port : Fn := ⟨[.val true cBridge false, .val false (.one (.int .i64)) false, .val false (.one (.int .i64)) false], [.val false (.one (.int .i64)) true], fun a => spec_l17Port a.1 a.2.1 a.2.2⟩
def a_spec_l17Port : List (Nat × LoopAnn) := []
theorem e_spec_l17Port : fnDen ⟨tis, fns_208⟩ a_spec_l17Port Try.f140 (codeOf Try.f140) [.val true cBridge false, .val false (.one (.int .i64)) false, .val false (.one (.int .i64)) false] [.val false (.one (.int .i64)) true] = fun a => spec_l17Port a.1 a.2.1 a.2.2 := by kernel_rfl
theorem m_spec_l17Port : Meets Try.prog 140 F_spec_l17Port := by
  have h := meets_of (ann := a_spec_l17Port) (ps := [.val true cBridge false, .val false (.one (.int .i64)) false, .val false (.one (.int .i64)) false]) (rs := [.val false (.one (.int .i64)) true]) g_208 mixed Try.func140 (by kernel_rfl) (by kernel_rfl : Try.f140.body = some (codeOf Try.f140))
  rw [e_spec_l17Port] at h
  exact h
noncomputable def fns_140 : List (FuncId × Fn) := (140, F_spec_l17Port) :: fns_208
theorem g_140 : Good Try.prog ⟨tis, fns_140⟩ := g_208.cons m_spec_l17Port
noncomputable def spec_l17Row (r0 : Vrow) (c1 : Int) : Option Int :=
  cond (c1 == 1) (some 1) (cond (c1 == 2) (some r0.2.1) (some r0.2.2))
noncomputable def F_spec_l17Row : Fn := ⟨[.val true cVrow false, .val false (.one (.int .i64)) false], [.val false (.one (.int .i64)) true], fun a => spec_l17Row a.1 a.2⟩
def a_spec_l17Row : List (Nat × LoopAnn) := []
theorem e_spec_l17Row : fnDen ⟨tis, fns_140⟩ a_spec_l17Row Try.f141 (codeOf Try.f141) [.val true cVrow false, .val false (.one (.int .i64)) false] [.val false (.one (.int .i64)) true] = fun a => spec_l17Row a.1 a.2 := by kernel_rfl
theorem m_spec_l17Row : Meets Try.prog 141 F_spec_l17Row := by
  have h := meets_of (ann := a_spec_l17Row) (ps := [.val true cVrow false, .val false (.one (.int .i64)) false]) (rs := [.val false (.one (.int .i64)) true]) g_140 mixed Try.func141 (by kernel_rfl) (by kernel_rfl : Try.f141.body = some (codeOf Try.f141))
  rw [e_spec_l17Row] at h
  exact h
noncomputable def fns_141 : List (FuncId × Fn) := (141, F_spec_l17Row) :: fns_140
theorem g_141 : Good Try.prog ⟨tis, fns_141⟩ := g_140.cons m_spec_l17Row
noncomputable def spec_MibList_l2 (p0 : Bridge) (t4 : Int) (t5 : Int) (t3_1 : List Bind) : Option ((Int × List Bind) ⊕ (List Bind)) :=
  cond (decide (t5 < (p0.2.2.1.length : Int)))
    ((spec_l17Port p0 t4 t5).bind fun t59 =>
    (spec_l17Add t3_1 [2, t4, w64 (t5 + 1)] t59).bind fun t60 =>
    some (.inl (w64 (t5 + 1), t60)))
    (some (.inr t3_1))
noncomputable def spec_MibList_l0 (p0 : Bridge) (t4 : Int) (t3 : List Bind) : Option ((Int × List Bind) ⊕ (List Bind)) :=
  cond (decide (t4 ≤ 4))
    ((loop (fun z => spec_MibList_l2 p0 t4 z.1 z.2) (0, t3)).bind fun d =>
    some (.inl (w64 (t4 + 1), d)))
    (some (.inr t3))
noncomputable def spec_MibList_l6 (p0 : Bridge) (t6 : Int) (t7 : Int) (t3_5 : List Bind) : Option ((Int × List Bind) ⊕ (List Bind)) :=
  cond (decide (t7 < (p0.2.2.2.2.1.length : Int)))
    ((at? p0.2.2.2.2.1 t7).bind fun x79 =>
    (at? p0.2.2.2.2.1 t7).bind fun x87 =>
    (spec_l17Row x87 t6).bind fun t90 =>
    (spec_l17Add t3_5 [3, t6, x79.1] t90).bind fun t91 =>
    some (.inl (w64 (t7 + 1), t91)))
    (some (.inr t3_5))
noncomputable def spec_MibList_l4 (p0 : Bridge) (t6 : Int) (t3_4 : List Bind) : Option ((Int × List Bind) ⊕ (List Bind)) :=
  cond (decide (t6 ≤ 3))
    ((loop (fun z => spec_MibList_l6 p0 t6 z.1 z.2) (0, t3_4)).bind fun d_2 =>
    some (.inl (w64 (t6 + 1), d_2)))
    (some (.inr t3_4))
noncomputable def spec_MibList_l8 (p0 : Bridge) (t8 : Int) (t3_8 : List Bind) : Option ((Int × List Bind) ⊕ (List Bind)) :=
  cond (decide (t8 < (p0.2.2.2.1.length : Int)))
    ((at? p0.2.2.2.1 t8).bind fun x103 =>
    (at? p0.2.2.2.1 t8).bind fun x109 =>
    (at? p0.2.2.2.1 t8).bind fun x116 =>
    (spec_l17Add t3_8 [4, 1, x103.1, x109.2.1] (w64 (x116.2.2.1 + 1))).bind fun t120 =>
    some (.inl (w64 (t8 + 1), t120)))
    (some (.inr t3_8))
noncomputable def spec_MibList (p0 : Bridge) : Option (List Bind) :=
  (spec_BridgeOk p0).bind fun t10 =>
  cond (!t10)
    (some ([] : List Bind))
    ((spec_l17Name ([1, 1] : List Int)).bind fun t14 =>
    (spec_l17Add ([(t14, 4, 0, p0.2.1, [])]) ([1, 2] : List Int) p0.2.2.2.2.2.2.1).bind fun t24 =>
    (spec_l17Add t24 ([1, 3] : List Int) p0.2.2.2.2.2.2.2.1).bind fun t29 =>
    (spec_l17Add t29 ([1, 4] : List Int) p0.2.2.2.2.2.2.2.2.1).bind fun t34 =>
    (spec_l17Add t34 ([1, 5] : List Int) p0.2.2.2.2.2.2.2.2.2.1).bind fun t39 =>
    (loop (fun z => spec_MibList_l0 p0 z.1 z.2) (1, t39)).bind fun d_1 =>
    (loop (fun z => spec_MibList_l4 p0 z.1 z.2) (1, d_1)).bind fun d_3 =>
    (loop (fun z => spec_MibList_l8 p0 z.1 z.2) (0, d_3)).bind fun d_4 =>
    some d_4)
noncomputable def F_spec_MibList : Fn := ⟨[.val true cBridge false], [.val false (.one (.sl cBind)) true], fun a => spec_MibList a⟩
def a_spec_MibList : List (Nat × LoopAnn) := [(0, ⟨⟨[(3, false, [.own 1000000000]), (4, false, [.dat (.int .i64)])], [(1000000000, .root cBind true)]⟩,
    ⟨[(3, false, [.own 1000000300])], [(1000000300, .root cBind true)]⟩, none⟩),
  (2, ⟨⟨[(3, false, [.own 1000002000]), (5, false, [.dat (.int .i64)])], [(1000002000, .root cBind true)]⟩,
    ⟨[(3, false, [.own 1000002300])], [(1000002300, .root cBind true)]⟩, none⟩),
  (4, ⟨⟨[(3, false, [.own 1000004000]), (6, false, [.dat (.int .i64)])], [(1000004000, .root cBind true)]⟩,
    ⟨[(3, false, [.own 1000004300])], [(1000004300, .root cBind true)]⟩, none⟩),
  (6, ⟨⟨[(3, false, [.own 1000006000]), (7, false, [.dat (.int .i64)])], [(1000006000, .root cBind true)]⟩,
    ⟨[(3, false, [.own 1000006300])], [(1000006300, .root cBind true)]⟩, none⟩),
  (8, ⟨⟨[(3, false, [.own 1000008000]), (8, false, [.dat (.int .i64)])], [(1000008000, .root cBind true)]⟩,
    ⟨[(3, false, [.own 1000008300])], [(1000008300, .root cBind true)]⟩, none⟩)]
theorem e_spec_MibList : fnDen ⟨tis, fns_141⟩ a_spec_MibList Try.f67 (codeOf Try.f67) [.val true cBridge false] [.val false (.one (.sl cBind)) true] = fun a => spec_MibList a := by kernel_rfl
theorem m_spec_MibList : Meets Try.prog 67 F_spec_MibList := by
  have h := meets_of (ann := a_spec_MibList) (ps := [.val true cBridge false]) (rs := [.val false (.one (.sl cBind)) true]) g_141 mixed Try.func67 (by kernel_rfl) (by kernel_rfl : Try.f67.body = some (codeOf Try.f67))
  rw [e_spec_MibList] at h
  exact h
noncomputable def fns_67 : List (FuncId × Fn) := (67, F_spec_MibList) :: fns_141
theorem g_67 : Good Try.prog ⟨tis, fns_67⟩ := g_141.cons m_spec_MibList
noncomputable def spec_SameOid_l0 (a0 : List Int) (b1 : List Int) (i5 : Int) : Option (Int ⊕ (Unit ⊕ Bool)) :=
  cond (decide (i5 < (a0.length : Int)))
    ((at? a0 i5).bind fun x19 =>
    (at? b1 i5).bind fun x23 =>
    cond (x19 != x23) (some (.inr (.inr false))) (some (.inl (w64 (i5 + 1)))))
    (some (.inr (.inl ())))
noncomputable def spec_SameOid (a0 : List Int) (b1 : List Int) : Option Bool :=
  cond ((a0.length : Int) != (b1.length : Int))
    (some false)
    ((loop (fun z => spec_SameOid_l0 a0 b1 z) 0).bind (Sum.elim (fun d =>
      some true) (fun r => some r)))
noncomputable def F_spec_SameOid : Fn := ⟨[.val false (.one (.sl (.one (.int .i64)))) false, .val false (.one (.sl (.one (.int .i64)))) false], [.val false (.one .bool) true], fun a => spec_SameOid a.1 a.2⟩
def a_spec_SameOid : List (Nat × LoopAnn) := [(0, ⟨⟨[(5, false, [.dat (.int .i64)])], []⟩,
    ⟨[], []⟩, some ⟨[(4, false, [.dat .bool])], []⟩⟩)]
theorem e_spec_SameOid : fnDen ⟨tis, fns_67⟩ a_spec_SameOid Try.f97 (codeOf Try.f97) [.val false (.one (.sl (.one (.int .i64)))) false, .val false (.one (.sl (.one (.int .i64)))) false] [.val false (.one .bool) true] = fun a => spec_SameOid a.1 a.2 := by kernel_rfl
theorem m_spec_SameOid : Meets Try.prog 97 F_spec_SameOid := by
  have h := meets_of (ann := a_spec_SameOid) (ps := [.val false (.one (.sl (.one (.int .i64)))) false, .val false (.one (.sl (.one (.int .i64)))) false]) (rs := [.val false (.one .bool) true]) g_67 mixed Try.func97 (by kernel_rfl) (by kernel_rfl : Try.f97.body = some (codeOf Try.f97))
  rw [e_spec_SameOid] at h
  exact h
noncomputable def fns_97 : List (FuncId × Fn) := (97, F_spec_SameOid) :: fns_67
theorem g_97 : Good Try.prog ⟨tis, fns_97⟩ := g_67.cons m_spec_SameOid
noncomputable def spec_Below (o0 : List Int) (head1 : List Int) : Option Bool :=
  (cond (decide ((o0.length : Int) > (head1.length : Int)))
    ((cut o0 0 (head1.length : Int)).bind fun t14 =>
    (spec_SameOid t14 head1).bind fun t16 =>
    some t16)
    (some false)).bind fun t17 =>
  some t17
noncomputable def F_spec_Below : Fn := ⟨[.val false (.one (.sl (.one (.int .i64)))) false, .val false (.one (.sl (.one (.int .i64)))) false], [.val false (.one .bool) true], fun a => spec_Below a.1 a.2⟩
def a_spec_Below : List (Nat × LoopAnn) := []
theorem e_spec_Below : fnDen ⟨tis, fns_97⟩ a_spec_Below Try.f68 (codeOf Try.f68) [.val false (.one (.sl (.one (.int .i64)))) false, .val false (.one (.sl (.one (.int .i64)))) false] [.val false (.one .bool) true] = fun a => spec_Below a.1 a.2 := by kernel_rfl
theorem m_spec_Below : Meets Try.prog 68 F_spec_Below := by
  have h := meets_of (ann := a_spec_Below) (ps := [.val false (.one (.sl (.one (.int .i64)))) false, .val false (.one (.sl (.one (.int .i64)))) false]) (rs := [.val false (.one .bool) true]) g_97 mixed Try.func68 (by kernel_rfl) (by kernel_rfl : Try.f68.body = some (codeOf Try.f68))
  rw [e_spec_Below] at h
  exact h
noncomputable def fns_68 : List (FuncId × Fn) := (68, F_spec_Below) :: fns_97
theorem g_68 : Good Try.prog ⟨tis, fns_68⟩ := g_97.cons m_spec_Below
noncomputable def spec_CountBelow_l0 (head1 : List Int) (t9 : List Bind) (n6 : Int) (i7 : Int) : Option ((Int × Int) ⊕ Int) :=
  cond (decide (i7 < (t9.length : Int)))
    ((ix t9.length i7).bind fun j18 =>
    (t9[j18]?).bind fun x20 =>
    (spec_Below x20.1 head1).bind fun t22 =>
    cond t22
      (some (.inl (w64 (n6 + 1), w64 (i7 + 1))))
      (some (.inl (n6, w64 (i7 + 1)))))
    (some (.inr n6))
noncomputable def spec_CountBelow (b0 : Bridge) (head1 : List Int) : Option Int :=
  (spec_MibList b0).bind fun t9 =>
  (loop (fun z => spec_CountBelow_l0 head1 t9 z.1 z.2) (0, 0)).bind fun d =>
  some d
noncomputable def F_spec_CountBelow : Fn := ⟨[.val true cBridge false, .val false (.one (.sl (.one (.int .i64)))) false], [.val false (.one (.int .i64)) true], fun a => spec_CountBelow a.1 a.2⟩
def a_spec_CountBelow : List (Nat × LoopAnn) := [(0, ⟨⟨[(6, false, [.dat (.int .i64)]), (7, false, [.dat (.int .i64)])], []⟩,
    ⟨[(6, false, [.dat (.int .i64)])], []⟩, none⟩)]
theorem e_spec_CountBelow : fnDen ⟨tis, fns_68⟩ a_spec_CountBelow Try.f13 (codeOf Try.f13) [.val true cBridge false, .val false (.one (.sl (.one (.int .i64)))) false] [.val false (.one (.int .i64)) true] = fun a => spec_CountBelow a.1 a.2 := by kernel_rfl
theorem m_spec_CountBelow : Meets Try.prog 13 F_spec_CountBelow := by
  have h := meets_of (ann := a_spec_CountBelow) (ps := [.val true cBridge false, .val false (.one (.sl (.one (.int .i64)))) false]) (rs := [.val false (.one (.int .i64)) true]) g_68 mixed Try.func13 (by kernel_rfl) (by kernel_rfl : Try.f13.body = some (codeOf Try.f13))
  rw [e_spec_CountBelow] at h
  exact h
noncomputable def fns_13 : List (FuncId × Fn) := (13, F_spec_CountBelow) :: fns_68
theorem g_13 : Good Try.prog ⟨tis, fns_13⟩ := g_68.cons m_spec_CountBelow
noncomputable def impl_in (n0 : Int) (low1 : Int) (high2 : Int) : Option Bool :=
  (cond (decide (n0 ≥ low1)) (some (decide (n0 ≤ high2))) (some false)).bind fun t14 =>
  some t14
noncomputable def F_impl_in : Fn := ⟨[.val false (.one (.int .i64)) false, .val false (.one (.int .i64)) false, .val false (.one (.int .i64)) false], [.val false (.one .bool) true], fun a => impl_in a.1 a.2.1 a.2.2⟩
def a_impl_in : List (Nat × LoopAnn) := []
theorem e_impl_in : fnDen ⟨tis, fns_13⟩ a_impl_in Try.f112 (codeOf Try.f112) [.val false (.one (.int .i64)) false, .val false (.one (.int .i64)) false, .val false (.one (.int .i64)) false] [.val false (.one .bool) true] = fun a => impl_in a.1 a.2.1 a.2.2 := by kernel_rfl
theorem m_impl_in : Meets Try.prog 112 F_impl_in := by
  have h := meets_of (ann := a_impl_in) (ps := [.val false (.one (.int .i64)) false, .val false (.one (.int .i64)) false, .val false (.one (.int .i64)) false]) (rs := [.val false (.one .bool) true]) g_13 mixed Try.func112 (by kernel_rfl) (by kernel_rfl : Try.f112.body = some (codeOf Try.f112))
  rw [e_impl_in] at h
  exact h
noncomputable def fns_112 : List (FuncId × Fn) := (112, F_impl_in) :: fns_13
theorem g_112 : Good Try.prog ⟨tis, fns_112⟩ := g_13.cons m_impl_in
noncomputable def impl_isCount (n0 : Int) : Option Bool :=
  (impl_in n0 0 1000000).bind fun t4 =>
  some t4
noncomputable def F_impl_isCount : Fn := ⟨[.val false (.one (.int .i64)) false], [.val false (.one .bool) true], fun a => impl_isCount a⟩
def a_impl_isCount : List (Nat × LoopAnn) := []
theorem e_impl_isCount : fnDen ⟨tis, fns_112⟩ a_impl_isCount Try.f118 (codeOf Try.f118) [.val false (.one (.int .i64)) false] [.val false (.one .bool) true] = fun a => impl_isCount a := by kernel_rfl
theorem m_impl_isCount : Meets Try.prog 118 F_impl_isCount := by
  have h := meets_of (ann := a_impl_isCount) (ps := [.val false (.one (.int .i64)) false]) (rs := [.val false (.one .bool) true]) g_112 mixed Try.func118 (by kernel_rfl) (by kernel_rfl : Try.f118.body = some (codeOf Try.f118))
  rw [e_impl_isCount] at h
  exact h
noncomputable def fns_118 : List (FuncId × Fn) := (118, F_impl_isCount) :: fns_112
theorem g_118 : Good Try.prog ⟨tis, fns_118⟩ := g_112.cons m_impl_isCount
noncomputable def impl_VecOk (v0 : Vec) : Option Bool :=
  (impl_in v0.1 1 99).bind fun t5 =>
  (cond t5
    ((impl_in v0.2.1 0 100000).bind fun t9 =>
    some t9)
    (some false)).bind fun t10 =>
  (cond t10
    ((impl_in v0.2.2.1 0 10).bind fun t14 =>
    some t14)
    (some false)).bind fun t15 =>
  (cond t15
    ((impl_in v0.2.2.2.1 1 99).bind fun t19 =>
    some t19)
    (some false)).bind fun t20 =>
  (cond t20
    ((impl_in v0.2.2.2.2 0 7).bind fun t24 =>
    some t24)
    (some false)).bind fun t25 =>
  some t25
noncomputable def F_impl_VecOk : Fn := ⟨[.val true cVec false], [.val false (.one .bool) true], fun a => impl_VecOk a⟩
def a_impl_VecOk : List (Nat × LoopAnn) := []
theorem e_impl_VecOk : fnDen ⟨tis, fns_118⟩ a_impl_VecOk Try.f224 (codeOf Try.f224) [.val true cVec false] [.val false (.one .bool) true] = fun a => impl_VecOk a := by kernel_rfl
theorem m_impl_VecOk : Meets Try.prog 224 F_impl_VecOk := by
  have h := meets_of (ann := a_impl_VecOk) (ps := [.val true cVec false]) (rs := [.val false (.one .bool) true]) g_118 mixed Try.func224 (by kernel_rfl) (by kernel_rfl : Try.f224.body = some (codeOf Try.f224))
  rw [e_impl_VecOk] at h
  exact h
noncomputable def fns_224 : List (FuncId × Fn) := (224, F_impl_VecOk) :: fns_118
theorem g_224 : Good Try.prog ⟨tis, fns_224⟩ := g_118.cons m_impl_VecOk
noncomputable def impl_PtOk (p0 : Pt) : Option Bool :=
  (impl_in p0.2.1 1 1000).bind fun t5 =>
  (cond (!t5)
    (some true)
    ((cond p0.2.2.1 (some (!p0.1)) (some false)).bind fun t14 =>
    some t14)).bind fun t15 =>
  cond t15
    (some false)
    (cond p0.2.2.1
      ((impl_VecOk p0.2.2.2).bind fun t20 =>
      some t20)
      (let t2 := p0.2.2.2.1 == 0 && (p0.2.2.2.2.1 == 0 && (p0.2.2.2.2.2.1 == 0 && (p0.2.2.2.2.2.2.1 == 0 && (p0.2.2.2.2.2.2.2 == 0))))
      some t2))
noncomputable def F_impl_PtOk : Fn := ⟨[.val true cPt false], [.val false (.one .bool) true], fun a => impl_PtOk a⟩
def a_impl_PtOk : List (Nat × LoopAnn) := []
theorem e_impl_PtOk : fnDen ⟨tis, fns_224⟩ a_impl_PtOk Try.f161 (codeOf Try.f161) [.val true cPt false] [.val false (.one .bool) true] = fun a => impl_PtOk a := by kernel_rfl
theorem m_impl_PtOk : Meets Try.prog 161 F_impl_PtOk := by
  have h := meets_of (ann := a_impl_PtOk) (ps := [.val true cPt false]) (rs := [.val false (.one .bool) true]) g_224 mixed Try.func161 (by kernel_rfl) (by kernel_rfl : Try.f161.body = some (codeOf Try.f161))
  rw [e_impl_PtOk] at h
  exact h
noncomputable def fns_161 : List (FuncId × Fn) := (161, F_impl_PtOk) :: fns_224
theorem g_161 : Good Try.prog ⟨tis, fns_161⟩ := g_224.cons m_impl_PtOk
noncomputable def impl_fentOk (e0 : Fent) : Option Bool :=
  (impl_in e0.1 1 99).bind fun t5 =>
  (cond t5
    ((impl_in e0.2.1 1 9999).bind fun t9 =>
    some t9)
    (some false)).bind fun t10 =>
  (cond t10
    ((impl_in e0.2.2.1 0 7).bind fun t14 =>
    some t14)
    (some false)).bind fun t15 =>
  (cond t15
    ((impl_in e0.2.2.2.1 0 4).bind fun t19 =>
    some t19)
    (some false)).bind fun t20 =>
  (cond t20
    ((cond (!e0.2.2.2.2) (some true) (some (e0.2.2.2.1 == 0))).bind fun t29 =>
    some t29)
    (some false)).bind fun t30 =>
  some t30
noncomputable def F_impl_fentOk : Fn := ⟨[.val true cFent false], [.val false (.one .bool) true], fun a => impl_fentOk a⟩
def a_impl_fentOk : List (Nat × LoopAnn) := []
theorem e_impl_fentOk : fnDen ⟨tis, fns_161⟩ a_impl_fentOk Try.f225 (codeOf Try.f225) [.val true cFent false] [.val false (.one .bool) true] = fun a => impl_fentOk a := by kernel_rfl
theorem m_impl_fentOk : Meets Try.prog 225 F_impl_fentOk := by
  have h := meets_of (ann := a_impl_fentOk) (ps := [.val true cFent false]) (rs := [.val false (.one .bool) true]) g_161 mixed Try.func225 (by kernel_rfl) (by kernel_rfl : Try.f225.body = some (codeOf Try.f225))
  rw [e_impl_fentOk] at h
  exact h
noncomputable def fns_225 : List (FuncId × Fn) := (225, F_impl_fentOk) :: fns_161
theorem g_225 : Good Try.prog ⟨tis, fns_225⟩ := g_161.cons m_impl_fentOk
noncomputable def impl_behind (e0 : Fent) (tag1 : Int) (mac2 : Int) : Option Bool :=
  (cond (decide (e0.1 > tag1))
    (some true)
    ((cond (e0.1 == tag1) (some (decide (e0.2.1 > mac2))) (some false)).bind fun t21 =>
    some t21)).bind fun t22 =>
  some t22
noncomputable def F_impl_behind : Fn := ⟨[.val true cFent false, .val false (.one (.int .i64)) false, .val false (.one (.int .i64)) false], [.val false (.one .bool) true], fun a => impl_behind a.1 a.2.1 a.2.2⟩
def a_impl_behind : List (Nat × LoopAnn) := []
theorem e_impl_behind : fnDen ⟨tis, fns_225⟩ a_impl_behind Try.f226 (codeOf Try.f226) [.val true cFent false, .val false (.one (.int .i64)) false, .val false (.one (.int .i64)) false] [.val false (.one .bool) true] = fun a => impl_behind a.1 a.2.1 a.2.2 := by kernel_rfl
theorem m_impl_behind : Meets Try.prog 226 F_impl_behind := by
  have h := meets_of (ann := a_impl_behind) (ps := [.val true cFent false, .val false (.one (.int .i64)) false, .val false (.one (.int .i64)) false]) (rs := [.val false (.one .bool) true]) g_225 mixed Try.func226 (by kernel_rfl) (by kernel_rfl : Try.f226.body = some (codeOf Try.f226))
  rw [e_impl_behind] at h
  exact h
noncomputable def fns_226 : List (FuncId × Fn) := (226, F_impl_behind) :: fns_225
theorem g_226 : Good Try.prog ⟨tis, fns_226⟩ := g_225.cons m_impl_behind
noncomputable def impl_FdbOk_l0 (l0 : List Fent) (t7 : Int) : Option (Int ⊕ (Unit ⊕ Bool)) :=
  cond (decide (t7 < (l0.length : Int)))
    ((at? l0 t7).bind fun x10 =>
    (impl_fentOk x10).bind fun t13 =>
    (cond (!t13)
      (some true)
      ((cond (decide (t7 > 0))
        ((at? l0 (w64 (t7 - 1))).bind fun x23 =>
        (at? l0 (w64 (t7 - 1))).bind fun x29 =>
        (impl_behind x10 x23.1 x29.2.1).bind fun t32 =>
        some (!t32))
        (some false)).bind fun t34 =>
      some t34)).bind fun t35 =>
    cond t35 (some (.inr (.inr false))) (some (.inl (w64 (t7 + 1)))))
    (some (.inr (.inl ())))
noncomputable def impl_FdbOk (l0 : List Fent) : Option Bool :=
  (loop (fun z => impl_FdbOk_l0 l0 z) 0).bind (Sum.elim (fun d =>
    let t2 := decide ((l0.length : Int) ≤ 12)
    some t2) (fun r => some r))
noncomputable def F_impl_FdbOk : Fn := ⟨[.val false (.one (.sl cFent)) false], [.val false (.one .bool) true], fun a => impl_FdbOk a⟩
def a_impl_FdbOk : List (Nat × LoopAnn) := [(0, ⟨⟨[(7, false, [.dat (.int .i64)]), (16, false, [.undef]), (17, false, [.undef]), (18, false, [.undef]), (19, false, [.undef]), (20, false, [.undef]), (21, false, [.undef]), (22, false, [.undef]), (23, false, [.undef]), (24, false, [.undef]), (25, false, [.undef]), (26, false, [.undef]), (27, false, [.undef]), (28, false, [.undef]), (29, false, [.undef]), (30, false, [.undef]), (31, false, [.undef]), (32, false, [.undef]), (33, false, [.undef]), (34, false, [.undef])], []⟩,
    ⟨[], []⟩, some ⟨[(2, false, [.dat .bool])], []⟩⟩)]
theorem e_impl_FdbOk : fnDen ⟨tis, fns_226⟩ a_impl_FdbOk Try.f162 (codeOf Try.f162) [.val false (.one (.sl cFent)) false] [.val false (.one .bool) true] = fun a => impl_FdbOk a := by kernel_rfl
theorem m_impl_FdbOk : Meets Try.prog 162 F_impl_FdbOk := by
  have h := meets_of (ann := a_impl_FdbOk) (ps := [.val false (.one (.sl cFent)) false]) (rs := [.val false (.one .bool) true]) g_226 mixed Try.func162 (by kernel_rfl) (by kernel_rfl : Try.f162.body = some (codeOf Try.f162))
  rw [e_impl_FdbOk] at h
  exact h
noncomputable def fns_162 : List (FuncId × Fn) := (162, F_impl_FdbOk) :: fns_226
theorem g_162 : Good Try.prog ⟨tis, fns_162⟩ := g_226.cons m_impl_FdbOk
noncomputable def impl_allPorts (ports0 : Int) : Option Int :=
  (shl .i64 1 ports0).bind fun t4 =>
  some (w64 (t4 - 1))
noncomputable def F_impl_allPorts : Fn := ⟨[.val false (.one (.int .i64)) false], [.val false (.one (.int .i64)) true], fun a => impl_allPorts a⟩
def a_impl_allPorts : List (Nat × LoopAnn) := []
theorem e_impl_allPorts : fnDen ⟨tis, fns_162⟩ a_impl_allPorts Try.f227 (codeOf Try.f227) [.val false (.one (.int .i64)) false] [.val false (.one (.int .i64)) true] = fun a => impl_allPorts a := by kernel_rfl
theorem m_impl_allPorts : Meets Try.prog 227 F_impl_allPorts := by
  have h := meets_of (ann := a_impl_allPorts) (ps := [.val false (.one (.int .i64)) false]) (rs := [.val false (.one (.int .i64)) true]) g_162 mixed Try.func227 (by kernel_rfl) (by kernel_rfl : Try.f227.body = some (codeOf Try.f227))
  rw [e_impl_allPorts] at h
  exact h
noncomputable def fns_227 : List (FuncId × Fn) := (227, F_impl_allPorts) :: fns_162
theorem g_227 : Good Try.prog ⟨tis, fns_227⟩ := g_162.cons m_impl_allPorts
noncomputable def impl_RowAt_l0 (v0 : Vtab) (id1 : Int) (t10 : Int) : Option (Int ⊕ (Unit ⊕ Int)) :=
  cond (decide (t10 < (v0.1.length : Int)))
    ((at? v0.1 t10).bind fun x13 =>
    cond (x13.1 == id1) (some (.inr (.inr t10))) (some (.inl (w64 (t10 + 1)))))
    (some (.inr (.inl ())))
noncomputable def impl_RowAt (v0 : Vtab) (id1 : Int) : Option Int :=
  (loop (fun z => impl_RowAt_l0 v0 id1 z) 0).bind (Sum.elim (fun d =>
    some (-1)) (fun r => some r))
noncomputable def F_impl_RowAt : Fn := ⟨[.val true cVtab false, .val false (.one (.int .i64)) false], [.val false (.one (.int .i64)) true], fun a => impl_RowAt a.1 a.2⟩
def a_impl_RowAt : List (Nat × LoopAnn) := [(0, ⟨⟨[(10, false, [.dat (.int .i64)])], []⟩,
    ⟨[], []⟩, some ⟨[(4, false, [.dat (.int .i64)])], []⟩⟩)]
theorem e_impl_RowAt : fnDen ⟨tis, fns_227⟩ a_impl_RowAt Try.f228 (codeOf Try.f228) [.val true cVtab false, .val false (.one (.int .i64)) false] [.val false (.one (.int .i64)) true] = fun a => impl_RowAt a.1 a.2 := by kernel_rfl
theorem m_impl_RowAt : Meets Try.prog 228 F_impl_RowAt := by
  have h := meets_of (ann := a_impl_RowAt) (ps := [.val true cVtab false, .val false (.one (.int .i64)) false]) (rs := [.val false (.one (.int .i64)) true]) g_227 mixed Try.func228 (by kernel_rfl) (by kernel_rfl : Try.f228.body = some (codeOf Try.f228))
  rw [e_impl_RowAt] at h
  exact h
noncomputable def fns_228 : List (FuncId × Fn) := (228, F_impl_RowAt) :: fns_227
theorem g_228 : Good Try.prog ⟨tis, fns_228⟩ := g_227.cons m_impl_RowAt
noncomputable def impl_VtabOk_l0 (p0 : Vtab) (i1 : Int) (t28 : Int) : Option (Int ⊕ (Unit ⊕ Bool)) :=
  cond (decide (t28 < (p0.1.length : Int)))
    ((at? p0.1 t28).bind fun x31 =>
    (impl_in x31.1 1 99).bind fun t35 =>
    (cond (!t35)
      (some true)
      ((cond (decide (t28 > 0))
        ((at? p0.1 (w64 (t28 - 1))).bind fun x45 =>
        some (decide (x45.1 ≥ x31.1)))
        (some false)).bind fun t51 =>
      some t51)).bind fun t52 =>
    (cond t52
      (some true)
      ((impl_allPorts i1).bind fun t57 =>
      (impl_in x31.2.1 0 t57).bind fun t58 =>
      some (!t58))).bind fun t60 =>
    (cond t60 (some true) (some ((bclr .i64 x31.2.2 x31.2.1) != 0))).bind fun t68 =>
    cond t68 (some (.inr (.inr false))) (some (.inl (w64 (t28 + 1)))))
    (some (.inr (.inl ())))
noncomputable def impl_VtabOk_l2 (p0 : Vtab) (t73 : Int) : Option (Int ⊕ (Unit ⊕ Bool)) :=
  cond (decide (t73 < (p0.2.length : Int)))
    ((at? p0.2 t73).bind fun x75 =>
    (impl_RowAt p0 x75).bind fun t79 =>
    cond (decide (t79 < 0)) (some (.inr (.inr false))) (some (.inl (w64 (t73 + 1)))))
    (some (.inr (.inl ())))
noncomputable def impl_VtabOk (p0 : Vtab) (i1 : Int) : Option Bool :=
  (impl_in i1 1 6).bind fun t10 =>
  (cond (!t10) (some true) (some ((p0.2.length : Int) != i1))).bind fun t18 =>
  (cond t18 (some true) (some (decide ((p0.1.length : Int) > 6)))).bind fun t24 =>
  cond t24
    (some false)
    ((loop (fun z => impl_VtabOk_l0 p0 i1 z) 0).bind (Sum.elim (fun d =>
      (loop (fun z => impl_VtabOk_l2 p0 z) 0).bind (Sum.elim (fun d_1 =>
        some true) (fun r => some r))) (fun r_1 => some r_1)))
noncomputable def F_impl_VtabOk : Fn := ⟨[.val true cVtab false, .val false (.one (.int .i64)) false], [.val false (.one .bool) true], fun a => impl_VtabOk a.1 a.2⟩
def a_impl_VtabOk : List (Nat × LoopAnn) := [(0, ⟨⟨[(28, false, [.dat (.int .i64)]), (38, false, [.undef]), (39, false, [.undef]), (40, false, [.undef]), (41, false, [.undef]), (42, false, [.undef]), (43, false, [.undef]), (44, false, [.undef]), (45, false, [.undef]), (46, false, [.undef]), (47, false, [.undef]), (48, false, [.undef]), (49, false, [.undef]), (50, false, [.undef]), (51, false, [.undef]), (54, false, [.undef]), (55, false, [.undef]), (56, false, [.undef]), (57, false, [.undef]), (58, false, [.undef]), (59, false, [.undef]), (62, false, [.undef]), (63, false, [.undef]), (64, false, [.undef]), (65, false, [.undef]), (66, false, [.undef]), (67, false, [.undef])], []⟩,
    ⟨[], []⟩, some ⟨[(4, false, [.dat .bool])], []⟩⟩),
  (2, ⟨⟨[(73, false, [.dat (.int .i64)])], []⟩,
    ⟨[], []⟩, some ⟨[(4, false, [.dat .bool])], []⟩⟩)]
theorem e_impl_VtabOk : fnDen ⟨tis, fns_228⟩ a_impl_VtabOk Try.f163 (codeOf Try.f163) [.val true cVtab false, .val false (.one (.int .i64)) false] [.val false (.one .bool) true] = fun a => impl_VtabOk a.1 a.2 := by kernel_rfl
theorem m_impl_VtabOk : Meets Try.prog 163 F_impl_VtabOk := by
  have h := meets_of (ann := a_impl_VtabOk) (ps := [.val true cVtab false, .val false (.one (.int .i64)) false]) (rs := [.val false (.one .bool) true]) g_228 mixed Try.func163 (by kernel_rfl) (by kernel_rfl : Try.f163.body = some (codeOf Try.f163))
  rw [e_impl_VtabOk] at h
  exact h
noncomputable def fns_163 : List (FuncId × Fn) := (163, F_impl_VtabOk) :: fns_228
theorem g_163 : Good Try.prog ⟨tis, fns_163⟩ := g_228.cons m_impl_VtabOk
noncomputable def impl_BridgeOk_l0 (p0 : Bridge) (t8 : Int) : Option (Int ⊕ (Unit ⊕ Bool)) :=
  cond (decide (t8 < (p0.2.2.1.length : Int)))
    ((at? p0.2.2.1 t8).bind fun x10 =>
    (impl_PtOk x10).bind fun t13 =>
    cond (!t13) (some (.inr (.inr false))) (some (.inl (w64 (t8 + 1)))))
    (some (.inr (.inl ())))
noncomputable def impl_BridgeOk (p0 : Bridge) : Option Bool :=
  (loop (fun z => impl_BridgeOk_l0 p0 z) 0).bind (Sum.elim (fun d =>
    (impl_in p0.1 1 99).bind fun t18 =>
    (cond (!t18) (some true) (some (decide ((p0.2.1.length : Int) > 10)))).bind fun t25 =>
    (cond t25
      (some true)
      ((impl_in (p0.2.2.1.length : Int) 1 6).bind fun t30 =>
      some (!t30))).bind fun t32 =>
    (cond t32
      (some true)
      ((impl_FdbOk p0.2.2.2.1).bind fun t36 =>
      some (!t36))).bind fun t38 =>
    (cond t38
      (some true)
      ((impl_VtabOk (p0.2.2.2.2.1, p0.2.2.2.2.2.1) (p0.2.2.1.length : Int)).bind fun t45 =>
      some (!t45))).bind fun t47 =>
    cond t47
      (some false)
      ((impl_isCount p0.2.2.2.2.2.2.1).bind fun t50 =>
      (cond t50
        ((impl_isCount p0.2.2.2.2.2.2.2.1).bind fun t54 =>
        some t54)
        (some false)).bind fun t55 =>
      (cond t55
        ((impl_isCount p0.2.2.2.2.2.2.2.2.1).bind fun t59 =>
        some t59)
        (some false)).bind fun t60 =>
      (cond t60
        ((impl_isCount p0.2.2.2.2.2.2.2.2.2.1).bind fun t64 =>
        some t64)
        (some false)).bind fun t65 =>
      (cond t65
        ((impl_isCount p0.2.2.2.2.2.2.2.2.2.2).bind fun t69 =>
        some t69)
        (some false)).bind fun t70 =>
      some t70)) (fun r => some r))
noncomputable def F_impl_BridgeOk : Fn := ⟨[.val true cBridge false], [.val false (.one .bool) true], fun a => impl_BridgeOk a⟩
def a_impl_BridgeOk : List (Nat × LoopAnn) := [(0, ⟨⟨[(8, false, [.dat (.int .i64)])], []⟩,
    ⟨[], []⟩, some ⟨[(2, false, [.dat .bool])], []⟩⟩)]
theorem e_impl_BridgeOk : fnDen ⟨tis, fns_163⟩ a_impl_BridgeOk Try.f81 (codeOf Try.f81) [.val true cBridge false] [.val false (.one .bool) true] = fun a => impl_BridgeOk a := by kernel_rfl
theorem m_impl_BridgeOk : Meets Try.prog 81 F_impl_BridgeOk := by
  have h := meets_of (ann := a_impl_BridgeOk) (ps := [.val true cBridge false]) (rs := [.val false (.one .bool) true]) g_163 mixed Try.func81 (by kernel_rfl) (by kernel_rfl : Try.f81.body = some (codeOf Try.f81))
  rw [e_impl_BridgeOk] at h
  exact h
noncomputable def fns_81 : List (FuncId × Fn) := (81, F_impl_BridgeOk) :: fns_163
theorem g_81 : Good Try.prog ⟨tis, fns_81⟩ := g_163.cons m_impl_BridgeOk
noncomputable def impl_thing (v0 : Val) (name1 : List Int) : Option Bind :=
  (app ([1, 3, 1] : List Int) name1).bind fun zs7 =>
  some (zs7, v0.1, v0.2.1, v0.2.2.1, v0.2.2.2)
noncomputable def F_impl_thing : Fn := ⟨[.val true cVal false, .val false (.one (.sl (.one (.int .i64)))) false], [.val true cBind false], fun a => impl_thing a.1 a.2⟩
def a_impl_thing : List (Nat × LoopAnn) := []
theorem e_impl_thing : fnDen ⟨tis, fns_81⟩ a_impl_thing Try.f145 (codeOf Try.f145) [.val true cVal false, .val false (.one (.sl (.one (.int .i64)))) false] [.val true cBind false] = fun a => impl_thing a.1 a.2 := by kernel_rfl
theorem m_impl_thing : Meets Try.prog 145 F_impl_thing := by
  have h := meets_of (ann := a_impl_thing) (ps := [.val true cVal false, .val false (.one (.sl (.one (.int .i64)))) false]) (rs := [.val true cBind false]) g_81 mixed Try.func145 (by kernel_rfl) (by kernel_rfl : Try.f145.body = some (codeOf Try.f145))
  rw [e_impl_thing] at h
  exact h
noncomputable def fns_145 : List (FuncId × Fn) := (145, F_impl_thing) :: fns_81
theorem g_145 : Good Try.prog ⟨tis, fns_145⟩ := g_81.cons m_impl_thing
noncomputable def impl_number (n0 : Int) : Option Val :=
  some (2, n0, [], [])
noncomputable def F_impl_number : Fn := ⟨[.val false (.one (.int .i64)) false], [.val true cVal true], fun a => impl_number a⟩
def a_impl_number : List (Nat × LoopAnn) := []
theorem e_impl_number : fnDen ⟨tis, fns_145⟩ a_impl_number Try.f146 (codeOf Try.f146) [.val false (.one (.int .i64)) false] [.val true cVal true] = fun a => impl_number a := by kernel_rfl
theorem m_impl_number : Meets Try.prog 146 F_impl_number := by
  have h := meets_of (ann := a_impl_number) (ps := [.val false (.one (.int .i64)) false]) (rs := [.val true cVal true]) g_145 mixed Try.func146 (by kernel_rfl) (by kernel_rfl : Try.f146.body = some (codeOf Try.f146))
  rw [e_impl_number] at h
  exact h
noncomputable def fns_146 : List (FuncId × Fn) := (146, F_impl_number) :: fns_145
theorem g_146 : Good Try.prog ⟨tis, fns_146⟩ := g_145.cons m_impl_number
noncomputable def impl_bit (is0 : Bool) : Option Int :=
  cond is0 (some 1) (some 0)
noncomputable def F_impl_bit : Fn := ⟨[.val false (.one .bool) false], [.val false (.one (.int .i64)) true], fun a => impl_bit a⟩
def a_impl_bit : List (Nat × LoopAnn) := []
theorem e_impl_bit : fnDen ⟨tis, fns_146⟩ a_impl_bit Try.f211 (codeOf Try.f211) [.val false (.one .bool) false] [.val false (.one (.int .i64)) true] = fun a => impl_bit a := by kernel_rfl
theorem m_impl_bit : Meets Try.prog 211 F_impl_bit := by
  have h := meets_of (ann := a_impl_bit) (ps := [.val false (.one .bool) false]) (rs := [.val false (.one (.int .i64)) true]) g_146 mixed Try.func211 (by kernel_rfl) (by kernel_rfl : Try.f211.body = some (codeOf Try.f211))
  rw [e_impl_bit] at h
  exact h
noncomputable def fns_211 : List (FuncId × Fn) := (211, F_impl_bit) :: fns_146
theorem g_211 : Good Try.prog ⟨tis, fns_211⟩ := g_146.cons m_impl_bit
noncomputable def impl_StepVec (v0 : Vec) (cost1 : Int) : Option (Vec × Bool) :=
  (impl_VecOk v0).bind fun t8 =>
  (cond (!t8)
    (some true)
    ((impl_in cost1 1 1000).bind fun t12 =>
    some (!t12))).bind fun t14 =>
  cond t14
    (some (v0, false))
    ((impl_VecOk (v0.1, w64 (v0.2.1 + cost1), w64 (v0.2.2.1 + 1), v0.2.2.2.1, v0.2.2.2.2)).bind fun t27 =>
    cond (!t27)
      (some (v0, false))
      (some ((v0.1, w64 (v0.2.1 + cost1), w64 (v0.2.2.1 + 1), v0.2.2.2.1, v0.2.2.2.2), true)))
noncomputable def F_impl_StepVec : Fn := ⟨[.val true cVec false, .val false (.one (.int .i64)) false], [.val true cVec true, .val false (.one .bool) true], fun a => impl_StepVec a.1 a.2⟩
def a_impl_StepVec : List (Nat × LoopAnn) := []
theorem e_impl_StepVec : fnDen ⟨tis, fns_211⟩ a_impl_StepVec Try.f235 (codeOf Try.f235) [.val true cVec false, .val false (.one (.int .i64)) false] [.val true cVec true, .val false (.one .bool) true] = fun a => impl_StepVec a.1 a.2 := by kernel_rfl
theorem m_impl_StepVec : Meets Try.prog 235 F_impl_StepVec := by
  have h := meets_of (ann := a_impl_StepVec) (ps := [.val true cVec false, .val false (.one (.int .i64)) false]) (rs := [.val true cVec true, .val false (.one .bool) true]) g_211 mixed Try.func235 (by kernel_rfl) (by kernel_rfl : Try.f235.body = some (codeOf Try.f235))
  rw [e_impl_StepVec] at h
  exact h
noncomputable def fns_235 : List (FuncId × Fn) := (235, F_impl_StepVec) :: fns_211
theorem g_235 : Good Try.prog ⟨tis, fns_235⟩ := g_211.cons m_impl_StepVec
noncomputable def impl_LessVec (a0 : Vec) (b1 : Vec) : Option Bool :=
  cond (a0.1 != b1.1)
    (some (decide (a0.1 < b1.1)))
    (cond (a0.2.1 != b1.2.1)
      (some (decide (a0.2.1 < b1.2.1)))
      (cond (a0.2.2.2.1 != b1.2.2.2.1)
        (let t4 := decide (a0.2.2.2.1 < b1.2.2.2.1)
        some t4)
        (let t4_1 := decide (a0.2.2.2.2 < b1.2.2.2.2)
        some t4_1)))
noncomputable def F_impl_LessVec : Fn := ⟨[.val true cVec false, .val true cVec false], [.val false (.one .bool) true], fun a => impl_LessVec a.1 a.2⟩
def a_impl_LessVec : List (Nat × LoopAnn) := []
theorem e_impl_LessVec : fnDen ⟨tis, fns_235⟩ a_impl_LessVec Try.f236 (codeOf Try.f236) [.val true cVec false, .val true cVec false] [.val false (.one .bool) true] = fun a => impl_LessVec a.1 a.2 := by kernel_rfl
theorem m_impl_LessVec : Meets Try.prog 236 F_impl_LessVec := by
  have h := meets_of (ann := a_impl_LessVec) (ps := [.val true cVec false, .val true cVec false]) (rs := [.val false (.one .bool) true]) g_235 mixed Try.func236 (by kernel_rfl) (by kernel_rfl : Try.f236.body = some (codeOf Try.f236))
  rw [e_impl_LessVec] at h
  exact h
noncomputable def fns_236 : List (FuncId × Fn) := (236, F_impl_LessVec) :: fns_235
theorem g_236 : Good Try.prog ⟨tis, fns_236⟩ := g_235.cons m_impl_LessVec
noncomputable def impl_BestVec_l0 (p0 : Int) (i1 : List Pt) (t7 : Int) (t18 : Int) (b0 : Int) (b1 : Int) (b2 : Int) (b3 : Int) (b4 : Int) (b0_1 : Int) (b1_1 : Int) (b2_1 : Int) (b3_1 : Int) (b4_1 : Int) : Option ((Int × Int × Int × Int × Int × Int × Int × Int × Int × Int × Int × Int) ⊕ (Int × Int × Int × Int × Int × Int × Int × Int × Int × Int × Int)) :=
  cond (decide (t18 < (i1.length : Int)))
    ((at? i1 t18).bind fun x21 =>
    (cond (!x21.1) (some true) (some (!x21.2.2.1))).bind fun t30 =>
    cond t30
      (some (.inl (t7, w64 (t18 + 1), b0, b1, b2, b3, b4, b0_1, b1_1, b2_1, b3_1, b4_1)))
      ((impl_StepVec x21.2.2.2 x21.2.1).bind fun t36 =>
      (cond t36.2 (some (decide (t36.1.1 < p0))) (some false)).bind fun t45 =>
      (cond t45
        ((cond (decide (t7 < 0))
          (some true)
          ((impl_LessVec t36.1 (b0_1, b1_1, b2_1, b3_1, b4_1)).bind fun t52 =>
          some t52)).bind fun t53 =>
        some t53)
        (some false)).bind fun t54 =>
      cond t54
        (some (.inl (t18, w64 (t18 + 1), t36.1.1, t36.1.2.1, t36.1.2.2.1, p0, 0, t36.1.1, t36.1.2.1, t36.1.2.2.1, t36.1.2.2.2.1, t36.1.2.2.2.2)))
        (some (.inl (t7, w64 (t18 + 1), b0, b1, b2, b3, b4, b0_1, b1_1, b2_1, b3_1, b4_1)))))
    (some (.inr (t7, b0, b1, b2, b3, b4, b0_1, b1_1, b2_1, b3_1, b4_1)))
noncomputable def impl_BestVec (p0 : Int) (i1 : List Pt) : Option (Vec × Int) :=
  (loop (fun z => impl_BestVec_l0 p0 i1 z.1 z.2.1 z.2.2.1 z.2.2.2.1 z.2.2.2.2.1 z.2.2.2.2.2.1 z.2.2.2.2.2.2.1 z.2.2.2.2.2.2.2.1 z.2.2.2.2.2.2.2.2.1 z.2.2.2.2.2.2.2.2.2.1 z.2.2.2.2.2.2.2.2.2.2.1 z.2.2.2.2.2.2.2.2.2.2.2) ((-1), 0, p0, 0, 0, p0, 0, 0, 0, 0, 0, 0)).bind fun d =>
  some ((d.2.1, d.2.2.1, d.2.2.2.1, d.2.2.2.2.1, d.2.2.2.2.2.1), d.1)
noncomputable def F_impl_BestVec : Fn := ⟨[.val false (.one (.int .i64)) false, .val false (.one (.sl cPt)) false], [.val true cVec true, .val false (.one (.int .i64)) true], fun a => impl_BestVec a.1 a.2⟩
def a_impl_BestVec : List (Nat × LoopAnn) := [(0, ⟨⟨[(7, false, [.dat (.int .i64)]), (18, false, [.dat (.int .i64)]), (27, false, [.undef]), (28, false, [.undef]), (29, false, [.undef]), (41, false, [.undef]), (42, false, [.undef]), (43, false, [.undef]), (44, false, [.undef]), (47, false, [.undef]), (48, false, [.undef]), (49, false, [.undef]), (50, false, [.undef]), (51, false, [.undef]), (52, false, [.undef]), (53, false, [.undef])], [(266240, .box [.dat (.int .i64), .dat (.int .i64), .dat (.int .i64), .dat (.int .i64), .dat (.int .i64)]), (525312, .box [.dat (.int .i64), .dat (.int .i64), .dat (.int .i64), .dat (.int .i64), .dat (.int .i64)])]⟩,
    ⟨[(7, false, [.dat (.int .i64)])], [(266240, .box [.dat (.int .i64), .dat (.int .i64), .dat (.int .i64), .dat (.int .i64), .dat (.int .i64)]), (525312, .box [.dat (.int .i64), .dat (.int .i64), .dat (.int .i64), .dat (.int .i64), .dat (.int .i64)])]⟩, none⟩)]
theorem e_impl_BestVec : fnDen ⟨tis, fns_236⟩ a_impl_BestVec Try.f172 (codeOf Try.f172) [.val false (.one (.int .i64)) false, .val false (.one (.sl cPt)) false] [.val true cVec true, .val false (.one (.int .i64)) true] = fun a => impl_BestVec a.1 a.2 := by kernel_rfl
theorem m_impl_BestVec : Meets Try.prog 172 F_impl_BestVec := by
  have h := meets_of (ann := a_impl_BestVec) (ps := [.val false (.one (.int .i64)) false, .val false (.one (.sl cPt)) false]) (rs := [.val true cVec true, .val false (.one (.int .i64)) true]) g_236 mixed Try.func172 (by kernel_rfl) (by kernel_rfl : Try.f172.body = some (codeOf Try.f172))
  rw [e_impl_BestVec] at h
  exact h
noncomputable def fns_172 : List (FuncId × Fn) := (172, F_impl_BestVec) :: fns_236
theorem g_172 : Good Try.prog ⟨tis, fns_172⟩ := g_236.cons m_impl_BestVec
noncomputable def impl_SayVec (id0 : Int) (l1 : List Pt) (port2 : Int) : Option Vec :=
  (impl_BestVec id0 l1).bind fun t12 =>
  some (t12.1.1, t12.1.2.1, t12.1.2.2.1, t12.1.2.2.2.1, port2)
noncomputable def F_impl_SayVec : Fn := ⟨[.val false (.one (.int .i64)) false, .val false (.one (.sl cPt)) false, .val false (.one (.int .i64)) false], [.val true cVec true], fun a => impl_SayVec a.1 a.2.1 a.2.2⟩
def a_impl_SayVec : List (Nat × LoopAnn) := []
theorem e_impl_SayVec : fnDen ⟨tis, fns_172⟩ a_impl_SayVec Try.f264 (codeOf Try.f264) [.val false (.one (.int .i64)) false, .val false (.one (.sl cPt)) false, .val false (.one (.int .i64)) false] [.val true cVec true] = fun a => impl_SayVec a.1 a.2.1 a.2.2 := by kernel_rfl
theorem m_impl_SayVec : Meets Try.prog 264 F_impl_SayVec := by
  have h := meets_of (ann := a_impl_SayVec) (ps := [.val false (.one (.int .i64)) false, .val false (.one (.sl cPt)) false, .val false (.one (.int .i64)) false]) (rs := [.val true cVec true]) g_172 mixed Try.func264 (by kernel_rfl) (by kernel_rfl : Try.f264.body = some (codeOf Try.f264))
  rw [e_impl_SayVec] at h
  exact h
noncomputable def fns_264 : List (FuncId × Fn) := (264, F_impl_SayVec) :: fns_172
theorem g_264 : Good Try.prog ⟨tis, fns_264⟩ := g_172.cons m_impl_SayVec
noncomputable def impl_RoleOf (id0 : Int) (l1 : List Pt) (port2 : Int) : Option Int :=
  (impl_in port2 0 (w64 ((l1.length : Int) - 1))).bind fun t13 =>
  (cond (!t13)
    (some true)
    ((at? l1 port2).bind fun x18 =>
    some (!x18.1))).bind fun t22 =>
  cond t22
    (some 4)
    ((impl_BestVec id0 l1).bind fun t26 =>
    cond (t26.2 == port2)
      (some 1)
      ((at? l1 port2).bind fun x36 =>
      (cond (!x36.2.2.1)
        (some true)
        ((impl_SayVec id0 l1 port2).bind fun t44 =>
        (at? l1 port2).bind fun x47 =>
        (impl_LessVec t44 x47.2.2.2).bind fun t50 =>
        some t50)).bind fun t51 =>
      cond t51 (some 2) (some 3)))
noncomputable def F_impl_RoleOf : Fn := ⟨[.val false (.one (.int .i64)) false, .val false (.one (.sl cPt)) false, .val false (.one (.int .i64)) false], [.val false (.one (.int .i64)) true], fun a => impl_RoleOf a.1 a.2.1 a.2.2⟩
def a_impl_RoleOf : List (Nat × LoopAnn) := []
theorem e_impl_RoleOf : fnDen ⟨tis, fns_264⟩ a_impl_RoleOf Try.f212 (codeOf Try.f212) [.val false (.one (.int .i64)) false, .val false (.one (.sl cPt)) false, .val false (.one (.int .i64)) false] [.val false (.one (.int .i64)) true] = fun a => impl_RoleOf a.1 a.2.1 a.2.2 := by kernel_rfl
theorem m_impl_RoleOf : Meets Try.prog 212 F_impl_RoleOf := by
  have h := meets_of (ann := a_impl_RoleOf) (ps := [.val false (.one (.int .i64)) false, .val false (.one (.sl cPt)) false, .val false (.one (.int .i64)) false]) (rs := [.val false (.one (.int .i64)) true]) g_264 mixed Try.func212 (by kernel_rfl) (by kernel_rfl : Try.f212.body = some (codeOf Try.f212))
  rw [e_impl_RoleOf] at h
  exact h
noncomputable def fns_212 : List (FuncId × Fn) := (212, F_impl_RoleOf) :: fns_264
theorem g_212 : Good Try.prog ⟨tis, fns_212⟩ := g_264.cons m_impl_RoleOf
noncomputable def impl_portThing (b0 : Bridge) (c1 : Int) (p2 : Int) : Option Int :=
  cond (c1 == 1)
    ((at? b0.2.2.1 p2).bind fun x13 =>
    (impl_bit x13.1).bind fun t16 =>
    some t16)
    (cond (c1 == 2)
      ((at? b0.2.2.1 p2).bind fun x22 =>
      some x22.2.1)
      (cond (c1 == 3)
        ((impl_RoleOf b0.1 b0.2.2.1 p2).bind fun t32 =>
        some t32)
        ((at? b0.2.2.2.2.2.1 p2).bind fun x37 =>
        some x37)))
noncomputable def F_impl_portThing : Fn := ⟨[.val true cBridge false, .val false (.one (.int .i64)) false, .val false (.one (.int .i64)) false], [.val false (.one (.int .i64)) true], fun a => impl_portThing a.1 a.2.1 a.2.2⟩
def a_impl_portThing : List (Nat × LoopAnn) := []
theorem e_impl_portThing : fnDen ⟨tis, fns_212⟩ a_impl_portThing Try.f147 (codeOf Try.f147) [.val true cBridge false, .val false (.one (.int .i64)) false, .val false (.one (.int .i64)) false] [.val false (.one (.int .i64)) true] = fun a => impl_portThing a.1 a.2.1 a.2.2 := by kernel_rfl
theorem m_impl_portThing : Meets Try.prog 147 F_impl_portThing := by
  have h := meets_of (ann := a_impl_portThing) (ps := [.val true cBridge false, .val false (.one (.int .i64)) false, .val false (.one (.int .i64)) false]) (rs := [.val false (.one (.int .i64)) true]) g_212 mixed Try.func147 (by kernel_rfl) (by kernel_rfl : Try.f147.body = some (codeOf Try.f147))
  rw [e_impl_portThing] at h
  exact h
noncomputable def fns_147 : List (FuncId × Fn) := (147, F_impl_portThing) :: fns_212
theorem g_147 : Good Try.prog ⟨tis, fns_147⟩ := g_212.cons m_impl_portThing
noncomputable def impl_MibList_l0 (p0 : Bridge) (t32 : Int) (t3 : List Bind) : Option ((Int × List Bind) ⊕ (List Bind)) :=
  cond (decide (t32 < ([p0.2.2.2.2.2.2.1, p0.2.2.2.2.2.2.2.1, p0.2.2.2.2.2.2.2.2.1, p0.2.2.2.2.2.2.2.2.2.1].length : Int)))
    ((ix [p0.2.2.2.2.2.2.1, p0.2.2.2.2.2.2.2.1, p0.2.2.2.2.2.2.2.2.1, p0.2.2.2.2.2.2.2.2.2.1].length t32).bind fun j35 =>
    ([p0.2.2.2.2.2.2.1, p0.2.2.2.2.2.2.2.1, p0.2.2.2.2.2.2.2.2.1, p0.2.2.2.2.2.2.2.2.2.1][j35]?).bind fun x36 =>
    (impl_number x36).bind fun t39 =>
    (impl_thing t39 [1, w64 (t32 + 2)]).bind fun t43 =>
    (app t3 [t43]).bind fun zs45 =>
    some (.inl (w64 (t32 + 1), zs45)))
    (some (.inr t3))
noncomputable def impl_MibList_l4 (p0 : Bridge) (t6 : Int) (t54 : Int) (t3_3 : List Bind) : Option ((Int × List Bind) ⊕ (List Bind)) :=
  cond (decide (t54 < (p0.2.2.1.length : Int)))
    ((impl_portThing p0 t6 t54).bind fun t61 =>
    (impl_number t61).bind fun t62 =>
    (impl_thing t62 [2, t6, w64 (t54 + 1)]).bind fun t67 =>
    (app t3_3 [t67]).bind fun zs69 =>
    some (.inl (w64 (t54 + 1), zs69)))
    (some (.inr t3_3))
noncomputable def impl_MibList_l2 (p0 : Bridge) (t6 : Int) (t3_2 : List Bind) : Option ((Int × List Bind) ⊕ (List Bind)) :=
  cond (decide (t6 ≤ 4))
    ((loop (fun z => impl_MibList_l4 p0 t6 z.1 z.2) (0, t3_2)).bind fun d_1 =>
    some (.inl (w64 (t6 + 1), d_1)))
    (some (.inr t3_2))
noncomputable def impl_MibList_l8 (p0 : Bridge) (t8 : Int) (t79 : Int) (t3_7 : List Bind) : Option ((Int × List Bind) ⊕ (List Bind)) :=
  cond (decide (t79 < (p0.2.2.2.2.1.length : Int)))
    ((at? p0.2.2.2.2.1 t79).bind fun x81 =>
    (ix [1, x81.2.1, x81.2.2].length (w64 (t8 - 1))).bind fun j91 =>
    ([1, x81.2.1, x81.2.2][j91]?).bind fun x92 =>
    (impl_number x92).bind fun t93 =>
    (impl_thing t93 [3, t8, x81.1]).bind fun t98 =>
    (app t3_7 [t98]).bind fun zs100 =>
    some (.inl (w64 (t79 + 1), zs100)))
    (some (.inr t3_7))
noncomputable def impl_MibList_l6 (p0 : Bridge) (t8 : Int) (t3_6 : List Bind) : Option ((Int × List Bind) ⊕ (List Bind)) :=
  cond (decide (t8 ≤ 3))
    ((loop (fun z => impl_MibList_l8 p0 t8 z.1 z.2) (0, t3_6)).bind fun d_3 =>
    some (.inl (w64 (t8 + 1), d_3)))
    (some (.inr t3_6))
noncomputable def impl_MibList_l10 (p0 : Bridge) (t105 : Int) (t3_10 : List Bind) : Option ((Int × List Bind) ⊕ (List Bind)) :=
  cond (decide (t105 < (p0.2.2.2.1.length : Int)))
    ((at? p0.2.2.2.1 t105).bind fun x107 =>
    (impl_number (w64 (x107.2.2.1 + 1))).bind fun t113 =>
    (impl_thing t113 [4, 1, x107.1, x107.2.1]).bind fun t119 =>
    (app t3_10 [t119]).bind fun zs121 =>
    some (.inl (w64 (t105 + 1), zs121)))
    (some (.inr t3_10))
noncomputable def impl_MibList (p0 : Bridge) : Option (List Bind) :=
  (impl_BridgeOk p0).bind fun t14 =>
  cond (!t14)
    (some [])
    ((impl_thing (4, 0, p0.2.1, []) ([1, 1] : List Int)).bind fun t20 =>
    (loop (fun z => impl_MibList_l0 p0 z.1 z.2) (0, [t20])).bind fun d =>
    (loop (fun z => impl_MibList_l2 p0 z.1 z.2) (1, d)).bind fun d_2 =>
    (loop (fun z => impl_MibList_l6 p0 z.1 z.2) (1, d_2)).bind fun d_4 =>
    (loop (fun z => impl_MibList_l10 p0 z.1 z.2) (0, d_4)).bind fun d_5 =>
    some d_5)
noncomputable def F_impl_MibList : Fn := ⟨[.val true cBridge false], [.val false (.one (.sl cBind)) false], fun a => impl_MibList a⟩
def a_impl_MibList : List (Nat × LoopAnn) := [(0, ⟨⟨[(3, false, [.own 1000000000]), (32, false, [.dat (.int .i64)])], [(1000000000, .root cBind false)]⟩,
    ⟨[(3, false, [.own 1000000300])], [(1000000300, .root cBind false)]⟩, none⟩),
  (2, ⟨⟨[(3, false, [.own 1000002000]), (6, false, [.dat (.int .i64)])], [(1000002000, .root cBind false)]⟩,
    ⟨[(3, false, [.own 1000002300])], [(1000002300, .root cBind false)]⟩, none⟩),
  (4, ⟨⟨[(3, false, [.own 1000004000]), (54, false, [.dat (.int .i64)])], [(1000004000, .root cBind false)]⟩,
    ⟨[(3, false, [.own 1000004300])], [(1000004300, .root cBind false)]⟩, none⟩),
  (6, ⟨⟨[(3, false, [.own 1000006000]), (8, false, [.dat (.int .i64)])], [(1000006000, .root cBind false)]⟩,
    ⟨[(3, false, [.own 1000006300])], [(1000006300, .root cBind false)]⟩, none⟩),
  (8, ⟨⟨[(3, false, [.own 1000008000]), (79, false, [.dat (.int .i64)])], [(1000008000, .root cBind false)]⟩,
    ⟨[(3, false, [.own 1000008300])], [(1000008300, .root cBind false)]⟩, none⟩),
  (10, ⟨⟨[(3, false, [.own 1000010000]), (105, false, [.dat (.int .i64)])], [(1000010000, .root cBind false)]⟩,
    ⟨[(3, false, [.own 1000010300])], [(1000010300, .root cBind false)]⟩, none⟩)]
theorem e_impl_MibList : fnDen ⟨tis, fns_147⟩ a_impl_MibList Try.f72 (codeOf Try.f72) [.val true cBridge false] [.val false (.one (.sl cBind)) false] = fun a => impl_MibList a := by kernel_rfl
theorem m_impl_MibList : Meets Try.prog 72 F_impl_MibList := by
  have h := meets_of (ann := a_impl_MibList) (ps := [.val true cBridge false]) (rs := [.val false (.one (.sl cBind)) false]) g_147 mixed Try.func72 (by kernel_rfl) (by kernel_rfl : Try.f72.body = some (codeOf Try.f72))
  rw [e_impl_MibList] at h
  exact h
noncomputable def fns_72 : List (FuncId × Fn) := (72, F_impl_MibList) :: fns_147
theorem g_72 : Good Try.prog ⟨tis, fns_72⟩ := g_147.cons m_impl_MibList
noncomputable def impl_SameOid_l0 (a0 : List Int) (b1 : List Int) (t13 : Int) : Option (Int ⊕ (Unit ⊕ Bool)) :=
  cond (decide (t13 < (a0.length : Int)))
    ((at? a0 t13).bind fun x18 =>
    (at? b1 t13).bind fun x22 =>
    cond (x18 != x22) (some (.inr (.inr false))) (some (.inl (w64 (t13 + 1)))))
    (some (.inr (.inl ())))
noncomputable def impl_SameOid (a0 : List Int) (b1 : List Int) : Option Bool :=
  cond ((a0.length : Int) != (b1.length : Int))
    (some false)
    ((loop (fun z => impl_SameOid_l0 a0 b1 z) 0).bind (Sum.elim (fun d =>
      some true) (fun r => some r)))
noncomputable def F_impl_SameOid : Fn := ⟨[.val false (.one (.sl (.one (.int .i64)))) false, .val false (.one (.sl (.one (.int .i64)))) false], [.val false (.one .bool) true], fun a => impl_SameOid a.1 a.2⟩
def a_impl_SameOid : List (Nat × LoopAnn) := [(0, ⟨⟨[(13, false, [.dat (.int .i64)])], []⟩,
    ⟨[], []⟩, some ⟨[(4, false, [.dat .bool])], []⟩⟩)]
theorem e_impl_SameOid : fnDen ⟨tis, fns_72⟩ a_impl_SameOid Try.f38 (codeOf Try.f38) [.val false (.one (.sl (.one (.int .i64)))) false, .val false (.one (.sl (.one (.int .i64)))) false] [.val false (.one .bool) true] = fun a => impl_SameOid a.1 a.2 := by kernel_rfl
theorem m_impl_SameOid : Meets Try.prog 38 F_impl_SameOid := by
  have h := meets_of (ann := a_impl_SameOid) (ps := [.val false (.one (.sl (.one (.int .i64)))) false, .val false (.one (.sl (.one (.int .i64)))) false]) (rs := [.val false (.one .bool) true]) g_72 mixed Try.func38 (by kernel_rfl) (by kernel_rfl : Try.f38.body = some (codeOf Try.f38))
  rw [e_impl_SameOid] at h
  exact h
noncomputable def fns_38 : List (FuncId × Fn) := (38, F_impl_SameOid) :: fns_72
theorem g_38 : Good Try.prog ⟨tis, fns_38⟩ := g_72.cons m_impl_SameOid
noncomputable def impl_Below (o0 : List Int) (head1 : List Int) : Option Bool :=
  (cond (decide ((o0.length : Int) > (head1.length : Int)))
    ((cut o0 0 (head1.length : Int)).bind fun t14 =>
    (impl_SameOid t14 head1).bind fun t16 =>
    some t16)
    (some false)).bind fun t17 =>
  some t17
noncomputable def F_impl_Below : Fn := ⟨[.val false (.one (.sl (.one (.int .i64)))) false, .val false (.one (.sl (.one (.int .i64)))) false], [.val false (.one .bool) true], fun a => impl_Below a.1 a.2⟩
def a_impl_Below : List (Nat × LoopAnn) := []
theorem e_impl_Below : fnDen ⟨tis, fns_38⟩ a_impl_Below Try.f73 (codeOf Try.f73) [.val false (.one (.sl (.one (.int .i64)))) false, .val false (.one (.sl (.one (.int .i64)))) false] [.val false (.one .bool) true] = fun a => impl_Below a.1 a.2 := by kernel_rfl
theorem m_impl_Below : Meets Try.prog 73 F_impl_Below := by
  have h := meets_of (ann := a_impl_Below) (ps := [.val false (.one (.sl (.one (.int .i64)))) false, .val false (.one (.sl (.one (.int .i64)))) false]) (rs := [.val false (.one .bool) true]) g_38 mixed Try.func73 (by kernel_rfl) (by kernel_rfl : Try.f73.body = some (codeOf Try.f73))
  rw [e_impl_Below] at h
  exact h
noncomputable def fns_73 : List (FuncId × Fn) := (73, F_impl_Below) :: fns_38
theorem g_73 : Good Try.prog ⟨tis, fns_73⟩ := g_38.cons m_impl_Below
noncomputable def impl_CountBelow_l0 (head1 : List Int) (t9 : List Bind) (n5 : Int) (t11 : Int) : Option ((Int × Int) ⊕ Int) :=
  cond (decide (t11 < (t9.length : Int)))
    ((at? t9 t11).bind fun x13 =>
    (impl_Below x13.1 head1).bind fun t18 =>
    cond t18
      (some (.inl (w64 (n5 + 1), w64 (t11 + 1))))
      (some (.inl (n5, w64 (t11 + 1)))))
    (some (.inr n5))
noncomputable def impl_CountBelow (b0 : Bridge) (head1 : List Int) : Option Int :=
  (impl_MibList b0).bind fun t9 =>
  (loop (fun z => impl_CountBelow_l0 head1 t9 z.1 z.2) (0, 0)).bind fun d =>
  some d
noncomputable def F_impl_CountBelow : Fn := ⟨[.val true cBridge false, .val false (.one (.sl (.one (.int .i64)))) false], [.val false (.one (.int .i64)) true], fun a => impl_CountBelow a.1 a.2⟩
def a_impl_CountBelow : List (Nat × LoopAnn) := [(0, ⟨⟨[(5, false, [.dat (.int .i64)]), (11, false, [.dat (.int .i64)])], []⟩,
    ⟨[(5, false, [.dat (.int .i64)])], []⟩, none⟩)]
theorem e_impl_CountBelow : fnDen ⟨tis, fns_73⟩ a_impl_CountBelow Try.f16 (codeOf Try.f16) [.val true cBridge false, .val false (.one (.sl (.one (.int .i64)))) false] [.val false (.one (.int .i64)) true] = fun a => impl_CountBelow a.1 a.2 := by kernel_rfl
theorem m_impl_CountBelow : Meets Try.prog 16 F_impl_CountBelow := by
  have h := meets_of (ann := a_impl_CountBelow) (ps := [.val true cBridge false, .val false (.one (.sl (.one (.int .i64)))) false]) (rs := [.val false (.one (.int .i64)) true]) g_73 mixed Try.func16 (by kernel_rfl) (by kernel_rfl : Try.f16.body = some (codeOf Try.f16))
  rw [e_impl_CountBelow] at h
  exact h
noncomputable def fns_16 : List (FuncId × Fn) := (16, F_impl_CountBelow) :: fns_73
theorem g_16 : Good Try.prog ⟨tis, fns_16⟩ := g_73.cons m_impl_CountBelow
noncomputable def laws_big (code0 : List Int) : Option Bool :=
  let t2 := decide ((code0.length : Int) > 1048576)
  some t2
noncomputable def F_laws_big : Fn := ⟨[.val false (.one (.sl (.one (.int .u8)))) false], [.val false (.one .bool) true], fun a => laws_big a⟩
def a_laws_big : List (Nat × LoopAnn) := []
theorem e_laws_big : fnDen ⟨tis, fns_16⟩ a_laws_big Try.f19 (codeOf Try.f19) [.val false (.one (.sl (.one (.int .u8)))) false] [.val false (.one .bool) true] = fun a => laws_big a := by kernel_rfl
theorem m_laws_big : Meets Try.prog 19 F_laws_big := by
  have h := meets_of (ann := a_laws_big) (ps := [.val false (.one (.sl (.one (.int .u8)))) false]) (rs := [.val false (.one .bool) true]) g_16 mixed Try.func19 (by kernel_rfl) (by kernel_rfl : Try.f19.body = some (codeOf Try.f19))
  rw [e_laws_big] at h
  exact h
noncomputable def fns_19 : List (FuncId × Fn) := (19, F_laws_big) :: fns_16
theorem g_19 : Good Try.prog ⟨tis, fns_19⟩ := g_16.cons m_laws_big
noncomputable def impl_MibGet_l0 (o1 : List Int) (t8 : List Bind) (t10 : Int) (b0_1 : Int) (b1 : Int) (b2 : List UInt8) (b3 : List Int) : Option ((Int × Int × Int × List UInt8 × List Int) ⊕ ((Int × Int × List UInt8 × List Int) ⊕ (Int × Int × List UInt8 × List Int))) :=
  cond (decide (t10 < (t8.length : Int)))
    ((at? t8 t10).bind fun x12 =>
    (impl_SameOid x12.1 o1).bind fun t17 =>
    cond t17
      (some (.inr (.inr x12.2)))
      (some (.inl (w64 (t10 + 1), b0_1, b1, b2, b3))))
    (some (.inr (.inl (b0_1, b1, b2, b3))))
noncomputable def impl_MibGet (b0 : Bridge) (o1 : List Int) : Option Val :=
  (impl_MibList b0).bind fun t8 =>
  (loop (fun z => impl_MibGet_l0 o1 t8 z.1 z.2.1 z.2.2.1 z.2.2.2.1 z.2.2.2.2) (0, 0, 0, [], [])).bind (Sum.elim (fun d =>
    some (128, 0, [], [])) (fun r => some r))
noncomputable def F_impl_MibGet : Fn := ⟨[.val true cBridge false, .val false (.one (.sl (.one (.int .i64)))) false], [.val true cVal false], fun a => impl_MibGet a.1 a.2⟩
def a_impl_MibGet : List (Nat × LoopAnn) := [(0, ⟨⟨[(10, false, [.dat (.int .i64)])], [(2048, .box [.dat (.int .i64), .dat (.int .i64), .dat .str, .own 1000000000]), (1000000000, .root (.one (.int .i64)) true)]⟩,
    ⟨[], [(2048, .box [.dat (.int .i64), .dat (.int .i64), .dat .str, .own 1000000300]), (1000000300, .root (.one (.int .i64)) true)]⟩, some ⟨[], [(2048, .box [.dat (.int .i64), .dat (.int .i64), .dat .str, .dat (.sl (.one (.int .i64)))])]⟩⟩)]
theorem e_impl_MibGet : fnDen ⟨tis, fns_19⟩ a_impl_MibGet Try.f22 (codeOf Try.f22) [.val true cBridge false, .val false (.one (.sl (.one (.int .i64)))) false] [.val true cVal false] = fun a => impl_MibGet a.1 a.2 := by kernel_rfl
theorem m_impl_MibGet : Meets Try.prog 22 F_impl_MibGet := by
  have h := meets_of (ann := a_impl_MibGet) (ps := [.val true cBridge false, .val false (.one (.sl (.one (.int .i64)))) false]) (rs := [.val true cVal false]) g_19 mixed Try.func22 (by kernel_rfl) (by kernel_rfl : Try.f22.body = some (codeOf Try.f22))
  rw [e_impl_MibGet] at h
  exact h
noncomputable def fns_22 : List (FuncId × Fn) := (22, F_impl_MibGet) :: fns_19
theorem g_22 : Good Try.prog ⟨tis, fns_22⟩ := g_19.cons m_impl_MibGet
noncomputable def spec_l1New_l0 (code0 : List Int) (h3_1 : Int) (i4 : Int) : Option ((Int × Int) ⊕ Int) :=
  (cond (decide (i4 < (code0.length : Int))) (some (decide (i4 < 4000))) (some false)).bind fun t15 =>
  cond t15
    ((at? code0 i4).bind fun x22 =>
    let h3_2 := band .i64 (w64 ((w64 ((w64 (h3_1 * 137)) + (w64 (x22)))) + 11)) 1073741823
    some (.inl (h3_2, w64 (i4 + 1))))
    (some (.inr h3_1))
noncomputable def spec_l1New (code0 : List Int) : Option L1Cur :=
  let h3 := w64 (762762 + (code0.length : Int))
  (loop (fun z => spec_l1New_l0 code0 z.1 z.2) (h3, 0)).bind fun d =>
  some (code0, 0, d)
noncomputable def F_spec_l1New : Fn := ⟨[.val false (.one (.sl (.one (.int .u8)))) false], [.ptr cL1Cur false], fun a => spec_l1New a⟩
def a_spec_l1New : List (Nat × LoopAnn) := [(0, ⟨⟨[(3, false, [.dat (.int .i64)]), (4, false, [.dat (.int .i64)]), (13, false, [.undef]), (14, false, [.undef])], []⟩,
    ⟨[(3, false, [.dat (.int .i64)])], []⟩, none⟩)]
theorem e_spec_l1New : fnDen ⟨tis, fns_22⟩ a_spec_l1New Try.f77 (codeOf Try.f77) [.val false (.one (.sl (.one (.int .u8)))) false] [.ptr cL1Cur false] = fun a => spec_l1New a := by kernel_rfl
theorem m_spec_l1New : Meets Try.prog 77 F_spec_l1New := by
  have h := meets_of (ann := a_spec_l1New) (ps := [.val false (.one (.sl (.one (.int .u8)))) false]) (rs := [.ptr cL1Cur false]) g_22 mixed Try.func77 (by kernel_rfl) (by kernel_rfl : Try.f77.body = some (codeOf Try.f77))
  rw [e_spec_l1New] at h
  exact h
noncomputable def fns_77 : List (FuncId × Fn) := (77, F_spec_l1New) :: fns_22
theorem g_77 : Good Try.prog ⟨tis, fns_77⟩ := g_22.cons m_spec_l1New
noncomputable def spec_l1Byte (c0 : L1Cur) : Option (L1Cur × Int) :=
  let x3 := band .i64 (bxor .i64 ((w64 ((w64 (c0.2.2 * 6364136223846793005)) + 1442695040888963407)).fdiv (2 ^ 33)) ((w64 ((w64 (c0.2.2 * 6364136223846793005)) + 1442695040888963407)).fdiv (2 ^ 47))) 255
  cond (decide (c0.2.1 < (c0.1.length : Int)))
    ((at? c0.1 c0.2.1).bind fun x44 =>
    let x3_1 := band .i64 (w64 (x3 + (w64 (x44)))) 255
    some ((c0.1, w64 (c0.2.1 + 1), w64 ((w64 (c0.2.2 * 6364136223846793005)) + 1442695040888963407)), x3_1))
    (some ((c0.1, c0.2.1, w64 ((w64 (c0.2.2 * 6364136223846793005)) + 1442695040888963407)), x3))
noncomputable def F_spec_l1Byte : Fn := ⟨[.ptr cL1Cur false], [.val false (.one (.int .i64)) true], fun a => spec_l1Byte a⟩
def a_spec_l1Byte : List (Nat × LoopAnn) := []
theorem e_spec_l1Byte : fnDen ⟨tis, fns_77⟩ a_spec_l1Byte Try.f187 (codeOf Try.f187) [.ptr cL1Cur false] [.val false (.one (.int .i64)) true] = fun a => spec_l1Byte a := by kernel_rfl
theorem m_spec_l1Byte : Meets Try.prog 187 F_spec_l1Byte := by
  have h := meets_of (ann := a_spec_l1Byte) (ps := [.ptr cL1Cur false]) (rs := [.val false (.one (.int .i64)) true]) g_77 mixed Try.func187 (by kernel_rfl) (by kernel_rfl : Try.f187.body = some (codeOf Try.f187))
  rw [e_spec_l1Byte] at h
  exact h
noncomputable def fns_187 : List (FuncId × Fn) := (187, F_spec_l1Byte) :: fns_77
theorem g_187 : Good Try.prog ⟨tis, fns_187⟩ := g_77.cons m_spec_l1Byte
noncomputable def spec_l1Below (c0 : L1Cur) (n1 : Int) : Option (L1Cur × Int) :=
  cond (decide (n1 ≤ 0))
    (some (c0, 0))
    (cond (decide (n1 ≤ 256))
      ((spec_l1Byte c0).bind fun t13 =>
      (rem t13.2 n1).bind fun t15 =>
      some (t13.1, t15))
      ((spec_l1Byte c0).bind fun t17 =>
      (spec_l1Byte t17.1).bind fun t19 =>
      (spec_l1Byte t19.1).bind fun t21 =>
      (rem (w64 ((w64 ((w64 (t17.2 * 65536)) + (w64 (t19.2 * 256)))) + t21.2)) n1).bind fun t30 =>
      some (t21.1, t30)))
noncomputable def F_spec_l1Below : Fn := ⟨[.ptr cL1Cur false, .val false (.one (.int .i64)) false], [.val false (.one (.int .i64)) true], fun a => spec_l1Below a.1 a.2⟩
def a_spec_l1Below : List (Nat × LoopAnn) := []
theorem e_spec_l1Below : fnDen ⟨tis, fns_187⟩ a_spec_l1Below Try.f108 (codeOf Try.f108) [.ptr cL1Cur false, .val false (.one (.int .i64)) false] [.val false (.one (.int .i64)) true] = fun a => spec_l1Below a.1 a.2 := by kernel_rfl
theorem m_spec_l1Below : Meets Try.prog 108 F_spec_l1Below := by
  have h := meets_of (ann := a_spec_l1Below) (ps := [.ptr cL1Cur false, .val false (.one (.int .i64)) false]) (rs := [.val false (.one (.int .i64)) true]) g_187 mixed Try.func108 (by kernel_rfl) (by kernel_rfl : Try.f108.body = some (codeOf Try.f108))
  rw [e_spec_l1Below] at h
  exact h
noncomputable def fns_108 : List (FuncId × Fn) := (108, F_spec_l1Below) :: fns_187
theorem g_108 : Good Try.prog ⟨tis, fns_108⟩ := g_187.cons m_spec_l1Below
noncomputable def spec_l1Once (c0 : L1Cur) (n1 : Int) : Option (L1Cur × Bool) :=
  (spec_l1Below c0 n1).bind fun t7 =>
  some (t7.1, t7.2 == 0)
noncomputable def F_spec_l1Once : Fn := ⟨[.ptr cL1Cur false, .val false (.one (.int .i64)) false], [.val false (.one .bool) true], fun a => spec_l1Once a.1 a.2⟩
def a_spec_l1Once : List (Nat × LoopAnn) := []
theorem e_spec_l1Once : fnDen ⟨tis, fns_108⟩ a_spec_l1Once Try.f106 (codeOf Try.f106) [.ptr cL1Cur false, .val false (.one (.int .i64)) false] [.val false (.one .bool) true] = fun a => spec_l1Once a.1 a.2 := by kernel_rfl
theorem m_spec_l1Once : Meets Try.prog 106 F_spec_l1Once := by
  have h := meets_of (ann := a_spec_l1Once) (ps := [.ptr cL1Cur false, .val false (.one (.int .i64)) false]) (rs := [.val false (.one .bool) true]) g_108 mixed Try.func106 (by kernel_rfl) (by kernel_rfl : Try.f106.body = some (codeOf Try.f106))
  rw [e_spec_l1Once] at h
  exact h
noncomputable def fns_106 : List (FuncId × Fn) := (106, F_spec_l1Once) :: fns_108
theorem g_106 : Good Try.prog ⟨tis, fns_106⟩ := g_108.cons m_spec_l1Once
noncomputable def spec_l1Int (c0 : L1Cur) (list1 : List Int) : Option (L1Cur × Int) :=
  (spec_l1Below c0 (list1.length : Int)).bind fun t9 =>
  (at? list1 t9.2).bind fun x10 =>
  some (t9.1, x10)
noncomputable def F_spec_l1Int : Fn := ⟨[.ptr cL1Cur false, .val false (.one (.sl (.one (.int .i64)))) false], [.val false (.one (.int .i64)) true], fun a => spec_l1Int a.1 a.2⟩
def a_spec_l1Int : List (Nat × LoopAnn) := []
theorem e_spec_l1Int : fnDen ⟨tis, fns_106⟩ a_spec_l1Int Try.f105 (codeOf Try.f105) [.ptr cL1Cur false, .val false (.one (.sl (.one (.int .i64)))) false] [.val false (.one (.int .i64)) true] = fun a => spec_l1Int a.1 a.2 := by kernel_rfl
theorem m_spec_l1Int : Meets Try.prog 105 F_spec_l1Int := by
  have h := meets_of (ann := a_spec_l1Int) (ps := [.ptr cL1Cur false, .val false (.one (.sl (.one (.int .i64)))) false]) (rs := [.val false (.one (.int .i64)) true]) g_106 mixed Try.func105 (by kernel_rfl) (by kernel_rfl : Try.f105.body = some (codeOf Try.f105))
  rw [e_spec_l1Int] at h
  exact h
noncomputable def fns_105 : List (FuncId × Fn) := (105, F_spec_l1Int) :: fns_106
theorem g_105 : Good Try.prog ⟨tis, fns_105⟩ := g_106.cons m_spec_l1Int
noncomputable def spec_l2Draw_l0 (i4 : Int) (b0 : List Int) (b1 : Int) (b2 : Int) (out3 : List Int) : Option ((Int × List Int × Int × Int × List Int) ⊕ (List Int × Int × Int × List Int)) :=
  cond (decide (i4 > 0))
    ((spec_l1Int (b0, b1, b2) ([0, 1, 2, 3, 127, 128, 16384, 100000] : List Int)).bind fun t16 =>
    (app out3 [t16.2]).bind fun zs18 =>
    some (.inl (w64 (i4 - 1), t16.1.1, t16.1.2.1, t16.1.2.2, zs18)))
    (some (.inr (b0, b1, b2, out3)))
noncomputable def spec_l2Draw (c0 : L1Cur) : Option (L1Cur × List Int) :=
  (spec_l1Below c0 6).bind fun t7 =>
  (loop (fun z => spec_l2Draw_l0 z.1 z.2.1 z.2.2.1 z.2.2.2.1 z.2.2.2.2) (w64 (1 + t7.2), t7.1.1, t7.1.2.1, t7.1.2.2, ([] : List Int))).bind fun d =>
  some ((d.1, d.2.1, d.2.2.1), d.2.2.2)
noncomputable def F_spec_l2Draw : Fn := ⟨[.ptr cL1Cur false], [.val false (.one (.sl (.one (.int .i64)))) true], fun a => spec_l2Draw a⟩
def a_spec_l2Draw : List (Nat × LoopAnn) := [(0, ⟨⟨[(3, false, [.own 1000000000]), (4, false, [.dat (.int .i64)])], [(1, .box [.dat (.sl (.one (.int .u8))), .dat (.int .i64), .dat (.int .i64)]), (1000000000, .root (.one (.int .i64)) true)]⟩,
    ⟨[(3, false, [.own 1000000300])], [(1, .box [.dat (.sl (.one (.int .u8))), .dat (.int .i64), .dat (.int .i64)]), (1000000300, .root (.one (.int .i64)) true)]⟩, none⟩)]
theorem e_spec_l2Draw : fnDen ⟨tis, fns_105⟩ a_spec_l2Draw Try.f158 (codeOf Try.f158) [.ptr cL1Cur false] [.val false (.one (.sl (.one (.int .i64)))) true] = fun a => spec_l2Draw a := by kernel_rfl
theorem m_spec_l2Draw : Meets Try.prog 158 F_spec_l2Draw := by
  have h := meets_of (ann := a_spec_l2Draw) (ps := [.ptr cL1Cur false]) (rs := [.val false (.one (.sl (.one (.int .i64)))) true]) g_105 mixed Try.func158 (by kernel_rfl) (by kernel_rfl : Try.f158.body = some (codeOf Try.f158))
  rw [e_spec_l2Draw] at h
  exact h
noncomputable def fns_158 : List (FuncId × Fn) := (158, F_spec_l2Draw) :: fns_105
theorem g_158 : Good Try.prog ⟨tis, fns_158⟩ := g_105.cons m_spec_l2Draw
noncomputable def spec_l17Oid (c0 : L1Cur) (b1 : Bridge) : Option (L1Cur × List Int) :=
  (spec_MibList b1).bind fun t7 =>
  cond (decide ((t7.length : Int) > 0))
    ((spec_l1Once c0 4).bind fun t13 =>
    cond (!t13.2)
      ((spec_l1Below t13.1 (t7.length : Int)).bind fun t21 =>
      (ix t7.length t21.2).bind fun j22 =>
      (t7[j22]?).bind fun x24 =>
      (app ([] : List Int) x24.1).bind fun zs25 =>
      some (t21.1, zs25))
      ((spec_l1Below t13.1 8).bind fun t27 =>
      cond (t27.2 == 0)
        (some (t27.1, ([0] : List Int)))
        (cond (t27.2 == 1)
          (some (t27.1, ([1, 3, 1] : List Int)))
          (cond (t27.2 == 2)
            ((spec_l17Name ([2, 2, 9] : List Int)).bind fun t37 =>
            some (t27.1, t37))
            (cond (t27.2 == 3)
              ((spec_l1Below t27.1 9).bind fun t41 =>
              (spec_l17Name [3, 1, w64 (1 + t41.2)]).bind fun t44 =>
              some (t41.1, t44))
              (cond (t27.2 == 4)
                ((spec_l17Name ([2, 2] : List Int)).bind fun t48 =>
                some (t27.1, t48))
                (cond (t27.2 == 5)
                  ((spec_l17Name ([9] : List Int)).bind fun t52 =>
                  some (t27.1, t52))
                  (cond (t27.2 == 6)
                    ((spec_l17Name ([4, 1, 2, 11] : List Int)).bind fun t56 =>
                    some (t27.1, t56))
                    ((spec_l2Draw t27.1).bind fun t58 =>
                    some t58)))))))))
    ((spec_l1Below c0 8).bind fun t27_1 =>
    cond (t27_1.2 == 0)
      (some (t27_1.1, ([0] : List Int)))
      (cond (t27_1.2 == 1)
        (some (t27_1.1, ([1, 3, 1] : List Int)))
        (cond (t27_1.2 == 2)
          ((spec_l17Name ([2, 2, 9] : List Int)).bind fun t37_1 =>
          some (t27_1.1, t37_1))
          (cond (t27_1.2 == 3)
            ((spec_l1Below t27_1.1 9).bind fun t41_1 =>
            (spec_l17Name [3, 1, w64 (1 + t41_1.2)]).bind fun t44_1 =>
            some (t41_1.1, t44_1))
            (cond (t27_1.2 == 4)
              ((spec_l17Name ([2, 2] : List Int)).bind fun t48_1 =>
              some (t27_1.1, t48_1))
              (cond (t27_1.2 == 5)
                ((spec_l17Name ([9] : List Int)).bind fun t52_1 =>
                some (t27_1.1, t52_1))
                (cond (t27_1.2 == 6)
                  ((spec_l17Name ([4, 1, 2, 11] : List Int)).bind fun t56_1 =>
                  some (t27_1.1, t56_1))
                  ((spec_l2Draw t27_1.1).bind fun t58_1 =>
                  some t58_1))))))))
noncomputable def F_spec_l17Oid : Fn := ⟨[.ptr cL1Cur false, .val true cBridge false], [.val false (.one (.sl (.one (.int .i64)))) true], fun a => spec_l17Oid a.1 a.2⟩
def a_spec_l17Oid : List (Nat × LoopAnn) := []
theorem e_spec_l17Oid : fnDen ⟨tis, fns_158⟩ a_spec_l17Oid Try.f79 (codeOf Try.f79) [.ptr cL1Cur false, .val true cBridge false] [.val false (.one (.sl (.one (.int .i64)))) true] = fun a => spec_l17Oid a.1 a.2 := by kernel_rfl
theorem m_spec_l17Oid : Meets Try.prog 79 F_spec_l17Oid := by
  have h := meets_of (ann := a_spec_l17Oid) (ps := [.ptr cL1Cur false, .val true cBridge false]) (rs := [.val false (.one (.sl (.one (.int .i64)))) true]) g_158 mixed Try.func79 (by kernel_rfl) (by kernel_rfl : Try.f79.body = some (codeOf Try.f79))
  rw [e_spec_l17Oid] at h
  exact h
noncomputable def fns_79 : List (FuncId × Fn) := (79, F_spec_l17Oid) :: fns_158
theorem g_79 : Good Try.prog ⟨tis, fns_79⟩ := g_158.cons m_spec_l17Oid
noncomputable def spec_VtabNew_l0 (ports0 : Int) (i5 : Int) (b1 : List Int) : Option ((Int × List Int) ⊕ (List Int)) :=
  cond (decide (i5 < ports0))
    ((app b1 ([1] : List Int)).bind fun zs27 =>
    some (.inl (w64 (i5 + 1), zs27)))
    (some (.inr b1))
noncomputable def spec_VtabNew (ports0 : Int) : Option Vtab :=
  (spec_l1In ports0 1 6).bind fun t7 =>
  cond (!t7)
    (some ([], []))
    ((shl .i64 1 (IntKind.u64.wrap (ports0))).bind fun t12 =>
    (loop (fun z => spec_VtabNew_l0 ports0 z.1 z.2) (0, [])).bind fun d =>
    some ([(1, w64 (t12 - 1), w64 (t12 - 1))], d))
noncomputable def F_spec_VtabNew : Fn := ⟨[.val false (.one (.int .i64)) false], [.val true cVtab true], fun a => spec_VtabNew a⟩
def a_spec_VtabNew : List (Nat × LoopAnn) := [(0, ⟨⟨[(5, false, [.dat (.int .i64)])], [(1054720, .box [.same 1052672, .own 1000000000]), (1000000000, .root (.one (.int .i64)) true)]⟩,
    ⟨[], [(1054720, .box [.same 1052672, .own 1000000300]), (1000000300, .root (.one (.int .i64)) true)]⟩, none⟩)]
theorem e_spec_VtabNew : fnDen ⟨tis, fns_79⟩ a_spec_VtabNew Try.f215 (codeOf Try.f215) [.val false (.one (.int .i64)) false] [.val true cVtab true] = fun a => spec_VtabNew a := by kernel_rfl
theorem m_spec_VtabNew : Meets Try.prog 215 F_spec_VtabNew := by
  have h := meets_of (ann := a_spec_VtabNew) (ps := [.val false (.one (.int .i64)) false]) (rs := [.val true cVtab true]) g_79 mixed Try.func215 (by kernel_rfl) (by kernel_rfl : Try.f215.body = some (codeOf Try.f215))
  rw [e_spec_VtabNew] at h
  exact h
noncomputable def fns_215 : List (FuncId × Fn) := (215, F_spec_VtabNew) :: fns_79
theorem g_215 : Good Try.prog ⟨tis, fns_215⟩ := g_79.cons m_spec_VtabNew
noncomputable def spec_BridgeNew_l0 (ports1 : Int) (i6 : Int) (b0 : Int) (b1 : List UInt8) (b6 : Int) (b7 : Int) (b8 : Int) (b9 : Int) (b10 : Int) (b2 : List Pt) (b3 : List Fent) : Option ((Int × Int × List UInt8 × Int × Int × Int × Int × Int × List Pt × List Fent) ⊕ (Int × List UInt8 × Int × Int × Int × Int × Int × List Pt × List Fent)) :=
  cond (decide (i6 < ports1))
    ((app b2 [(false, 1, false, 0, 0, 0, 0, 0)]).bind fun zs29 =>
    some (.inl (w64 (i6 + 1), b0, b1, b6, b7, b8, b9, b10, zs29, b3)))
    (some (.inr (b0, b1, b6, b7, b8, b9, b10, b2, b3)))
noncomputable def spec_BridgeNew (id0 : Int) (ports1 : Int) : Option Bridge :=
  (spec_l1In id0 1 99).bind fun t8 =>
  (cond (!t8)
    (some true)
    ((spec_l1In ports1 1 6).bind fun t12 =>
    some (!t12))).bind fun t14 =>
  cond t14
    (some (0, [], [], [], [], [], 0, 0, 0, 0, 0))
    ((spec_VtabNew ports1).bind fun t18 =>
    (loop (fun z => spec_BridgeNew_l0 ports1 z.1 z.2.1 z.2.2.1 z.2.2.2.1 z.2.2.2.2.1 z.2.2.2.2.2.1 z.2.2.2.2.2.2.1 z.2.2.2.2.2.2.2.1 z.2.2.2.2.2.2.2.2.1 z.2.2.2.2.2.2.2.2.2) (0, id0, [], 0, 0, 0, 0, 0, [], [])).bind fun d =>
    some (d.1, d.2.1, d.2.2.2.2.2.2.2.1, d.2.2.2.2.2.2.2.2, t18.1, t18.2, d.2.2.1, d.2.2.2.1, d.2.2.2.2.1, d.2.2.2.2.2.1, d.2.2.2.2.2.2.1))
noncomputable def F_spec_BridgeNew : Fn := ⟨[.val false (.one (.int .i64)) false, .val false (.one (.int .i64)) false], [.val true cBridge true], fun a => spec_BridgeNew a.1 a.2⟩
def a_spec_BridgeNew : List (Nat × LoopAnn) := [(0, ⟨⟨[(6, false, [.dat (.int .i64)])], [(791552, .box [.dat (.int .i64), .dat .str, .own 1000000000, .own 1000000001, .same 789504, .same 789505, .dat (.int .i64), .dat (.int .i64), .dat (.int .i64), .dat (.int .i64), .dat (.int .i64)]), (1000000000, .root cPt true), (1000000001, .root cFent true)]⟩,
    ⟨[], [(791552, .box [.dat (.int .i64), .dat .str, .own 1000000300, .own 1000000301, .same 789504, .same 789505, .dat (.int .i64), .dat (.int .i64), .dat (.int .i64), .dat (.int .i64), .dat (.int .i64)]), (1000000300, .root cPt true), (1000000301, .root cFent true)]⟩, none⟩)]
theorem e_spec_BridgeNew : fnDen ⟨tis, fns_215⟩ a_spec_BridgeNew Try.f151 (codeOf Try.f151) [.val false (.one (.int .i64)) false, .val false (.one (.int .i64)) false] [.val true cBridge true] = fun a => spec_BridgeNew a.1 a.2 := by kernel_rfl
theorem m_spec_BridgeNew : Meets Try.prog 151 F_spec_BridgeNew := by
  have h := meets_of (ann := a_spec_BridgeNew) (ps := [.val false (.one (.int .i64)) false, .val false (.one (.int .i64)) false]) (rs := [.val true cBridge true]) g_215 mixed Try.func151 (by kernel_rfl) (by kernel_rfl : Try.f151.body = some (codeOf Try.f151))
  rw [e_spec_BridgeNew] at h
  exact h
noncomputable def fns_151 : List (FuncId × Fn) := (151, F_spec_BridgeNew) :: fns_215
theorem g_151 : Good Try.prog ⟨tis, fns_151⟩ := g_215.cons m_spec_BridgeNew
noncomputable def spec_l1Str (c0 : L1Cur) (list1 : List (List UInt8)) : Option (L1Cur × List UInt8) :=
  (spec_l1Below c0 (list1.length : Int)).bind fun t9 =>
  (at? list1 t9.2).bind fun x10 =>
  some (t9.1, x10)
noncomputable def F_spec_l1Str : Fn := ⟨[.ptr cL1Cur false, .val false (.one (.sl (.one .str))) false], [.val false (.one .str) true], fun a => spec_l1Str a.1 a.2⟩
def a_spec_l1Str : List (Nat × LoopAnn) := []
theorem e_spec_l1Str : fnDen ⟨tis, fns_151⟩ a_spec_l1Str Try.f152 (codeOf Try.f152) [.ptr cL1Cur false, .val false (.one (.sl (.one .str))) false] [.val false (.one .str) true] = fun a => spec_l1Str a.1 a.2 := by kernel_rfl
theorem m_spec_l1Str : Meets Try.prog 152 F_spec_l1Str := by
  have h := meets_of (ann := a_spec_l1Str) (ps := [.ptr cL1Cur false, .val false (.one (.sl (.one .str))) false]) (rs := [.val false (.one .str) true]) g_151 mixed Try.func152 (by kernel_rfl) (by kernel_rfl : Try.f152.body = some (codeOf Try.f152))
  rw [e_spec_l1Str] at h
  exact h
noncomputable def fns_152 : List (FuncId × Fn) := (152, F_spec_l1Str) :: fns_151
theorem g_152 : Good Try.prog ⟨tis, fns_152⟩ := g_151.cons m_spec_l1Str
noncomputable def spec_l7Draw (c0 : L1Cur) : Option (L1Cur × Vec) :=
  (spec_l1Below c0 5).bind fun t4 =>
  (spec_l1Int t4.1 ([0, 1, 2, 5, 10, 100] : List Int)).bind fun t8 =>
  (spec_l1Int t8.1 ([0, 1, 2, 9, 10] : List Int)).bind fun t11 =>
  (spec_l1Below t11.1 5).bind fun t13 =>
  (spec_l1Below t13.1 4).bind fun t16 =>
  some (t16.1, (w64 (1 + t4.2), t8.2, t11.2, w64 (1 + t13.2), t16.2))
noncomputable def F_spec_l7Draw : Fn := ⟨[.ptr cL1Cur false], [.val true cVec true], fun a => spec_l7Draw a⟩
def a_spec_l7Draw : List (Nat × LoopAnn) := []
theorem e_spec_l7Draw : fnDen ⟨tis, fns_152⟩ a_spec_l7Draw Try.f216 (codeOf Try.f216) [.ptr cL1Cur false] [.val true cVec true] = fun a => spec_l7Draw a := by kernel_rfl
theorem m_spec_l7Draw : Meets Try.prog 216 F_spec_l7Draw := by
  have h := meets_of (ann := a_spec_l7Draw) (ps := [.ptr cL1Cur false]) (rs := [.val true cVec true]) g_152 mixed Try.func216 (by kernel_rfl) (by kernel_rfl : Try.f216.body = some (codeOf Try.f216))
  rw [e_spec_l7Draw] at h
  exact h
noncomputable def fns_216 : List (FuncId × Fn) := (216, F_spec_l7Draw) :: fns_152
theorem g_216 : Good Try.prog ⟨tis, fns_216⟩ := g_152.cons m_spec_l7Draw
noncomputable def spec_l10Draw_l0 (n1 : Int) (i6 : Int) (b0 : List Int) (b1 : Int) (b2 : Int) (out5 : List Pt) : Option ((Int × List Int × Int × Int × List Pt) ⊕ (List Int × Int × Int × List Pt)) :=
  cond (decide (i6 < n1))
    ((spec_l1Once (b0, b1, b2) 4).bind fun t15 =>
    (spec_l1Int t15.1 ([1, 1, 2, 5, 10] : List Int)).bind fun t19 =>
    cond (!t15.2)
      ((spec_l1Once t19.1 4).bind fun t25 =>
      cond (!t25.2)
        ((spec_l7Draw t25.1).bind fun t30 =>
        (app out5 [(!t15.2, t19.2, true, t30.2.1, t30.2.2.1, t30.2.2.2.1, t30.2.2.2.2.1, t30.2.2.2.2.2)]).bind fun zs35 =>
        some (.inl (w64 (i6 + 1), t30.1.1, t30.1.2.1, t30.1.2.2, zs35)))
        ((app out5 [(!t15.2, t19.2, false, 0, 0, 0, 0, 0)]).bind fun zs35_1 =>
        some (.inl (w64 (i6 + 1), t25.1.1, t25.1.2.1, t25.1.2.2, zs35_1))))
      ((app out5 [(!t15.2, t19.2, false, 0, 0, 0, 0, 0)]).bind fun zs35_2 =>
      some (.inl (w64 (i6 + 1), t19.1.1, t19.1.2.1, t19.1.2.2, zs35_2))))
    (some (.inr (b0, b1, b2, out5)))
noncomputable def spec_l10Draw (c0 : L1Cur) (n1 : Int) : Option (L1Cur × List Pt) :=
  (loop (fun z => spec_l10Draw_l0 n1 z.1 z.2.1 z.2.2.1 z.2.2.2.1 z.2.2.2.2) (0, c0.1, c0.2.1, c0.2.2, ([] : List Pt))).bind fun d =>
  some ((d.1, d.2.1, d.2.2.1), d.2.2.2)
noncomputable def F_spec_l10Draw : Fn := ⟨[.ptr cL1Cur false, .val false (.one (.int .i64)) false], [.val false (.one (.sl cPt)) true], fun a => spec_l10Draw a.1 a.2⟩
def a_spec_l10Draw : List (Nat × LoopAnn) := [(0, ⟨⟨[(5, false, [.own 1000000000]), (6, false, [.dat (.int .i64)]), (24, false, [.undef]), (25, false, [.undef]), (26, false, [.undef])], [(1, .box [.dat (.sl (.one (.int .u8))), .dat (.int .i64), .dat (.int .i64)]), (1000000000, .root cPt true)]⟩,
    ⟨[(5, false, [.own 1000000300])], [(1, .box [.dat (.sl (.one (.int .u8))), .dat (.int .i64), .dat (.int .i64)]), (1000000300, .root cPt true)]⟩, none⟩)]
theorem e_spec_l10Draw : fnDen ⟨tis, fns_216⟩ a_spec_l10Draw Try.f153 (codeOf Try.f153) [.ptr cL1Cur false, .val false (.one (.int .i64)) false] [.val false (.one (.sl cPt)) true] = fun a => spec_l10Draw a.1 a.2 := by kernel_rfl
theorem m_spec_l10Draw : Meets Try.prog 153 F_spec_l10Draw := by
  have h := meets_of (ann := a_spec_l10Draw) (ps := [.ptr cL1Cur false, .val false (.one (.int .i64)) false]) (rs := [.val false (.one (.sl cPt)) true]) g_216 mixed Try.func153 (by kernel_rfl) (by kernel_rfl : Try.f153.body = some (codeOf Try.f153))
  rw [e_spec_l10Draw] at h
  exact h
noncomputable def fns_153 : List (FuncId × Fn) := (153, F_spec_l10Draw) :: fns_216
theorem g_153 : Good Try.prog ⟨tis, fns_153⟩ := g_216.cons m_spec_l10Draw
noncomputable def spec_l9Copy (v0 : Vtab) : Option Vtab :=
  (app ([] : List Vrow) v0.1).bind fun zs6 =>
  (app ([] : List Int) v0.2).bind fun zs10 =>
  some (zs6, zs10)
noncomputable def F_spec_l9Copy : Fn := ⟨[.val true cVtab false], [.val true cVtab true], fun a => spec_l9Copy a⟩
def a_spec_l9Copy : List (Nat × LoopAnn) := []
theorem e_spec_l9Copy : fnDen ⟨tis, fns_153⟩ a_spec_l9Copy Try.f199 (codeOf Try.f199) [.val true cVtab false] [.val true cVtab true] = fun a => spec_l9Copy a := by kernel_rfl
theorem m_spec_l9Copy : Meets Try.prog 199 F_spec_l9Copy := by
  have h := meets_of (ann := a_spec_l9Copy) (ps := [.val true cVtab false]) (rs := [.val true cVtab true]) g_153 mixed Try.func199 (by kernel_rfl) (by kernel_rfl : Try.f199.body = some (codeOf Try.f199))
  rw [e_spec_l9Copy] at h
  exact h
noncomputable def fns_199 : List (FuncId × Fn) := (199, F_spec_l9Copy) :: fns_153
theorem g_199 : Good Try.prog ⟨tis, fns_199⟩ := g_153.cons m_spec_l9Copy
noncomputable def spec_l9Or (x0 : Vtab) (v1 : Vtab) : Option (Vtab × Bool) :=
  (spec_VtabOk x0 (v1.2.length : Int)).bind fun t10 =>
  cond (!t10)
    ((spec_l9Copy v1).bind fun t13 =>
    some (t13, false))
    (some (x0, true))
noncomputable def F_spec_l9Or : Fn := ⟨[.val true cVtab true, .val true cVtab false], [.val true cVtab true, .val false (.one .bool) true], fun a => spec_l9Or a.1 a.2⟩
def a_spec_l9Or : List (Nat × LoopAnn) := []
theorem e_spec_l9Or : fnDen ⟨tis, fns_199⟩ a_spec_l9Or Try.f265 (codeOf Try.f265) [.val true cVtab true, .val true cVtab false] [.val true cVtab true, .val false (.one .bool) true] = fun a => spec_l9Or a.1 a.2 := by kernel_rfl
theorem m_spec_l9Or : Meets Try.prog 265 F_spec_l9Or := by
  have h := meets_of (ann := a_spec_l9Or) (ps := [.val true cVtab true, .val true cVtab false]) (rs := [.val true cVtab true, .val false (.one .bool) true]) g_199 mixed Try.func265 (by kernel_rfl) (by kernel_rfl : Try.f265.body = some (codeOf Try.f265))
  rw [e_spec_l9Or] at h
  exact h
noncomputable def fns_265 : List (FuncId × Fn) := (265, F_spec_l9Or) :: fns_199
theorem g_265 : Good Try.prog ⟨tis, fns_265⟩ := g_199.cons m_spec_l9Or
noncomputable def spec_SetPvid (v0 : Vtab) (port1 : Int) (id2 : Int) : Option (Vtab × Bool) :=
  (spec_VtabOk v0 (v0.2.length : Int)).bind fun t13 =>
  (cond (!t13)
    (some true)
    ((spec_l1In port1 0 (w64 ((v0.2.length : Int) - 1))).bind fun t21 =>
    some (!t21))).bind fun t23 =>
  cond t23
    ((spec_l9Copy v0).bind fun t25 =>
    some (t25, false))
    ((spec_l9Copy v0).bind fun t27 =>
    (ix t27.2.length port1).bind fun j32 =>
    (t27.2[j32]?).bind fun x =>
    (spec_l9Or (t27.1, t27.2.set j32 id2) v0).bind fun t35 =>
    some t35)
noncomputable def F_spec_SetPvid : Fn := ⟨[.val true cVtab false, .val false (.one (.int .i64)) false, .val false (.one (.int .i64)) false], [.val true cVtab true, .val false (.one .bool) true], fun a => spec_SetPvid a.1 a.2.1 a.2.2⟩
def a_spec_SetPvid : List (Nat × LoopAnn) := []
theorem e_spec_SetPvid : fnDen ⟨tis, fns_265⟩ a_spec_SetPvid Try.f217 (codeOf Try.f217) [.val true cVtab false, .val false (.one (.int .i64)) false, .val false (.one (.int .i64)) false] [.val true cVtab true, .val false (.one .bool) true] = fun a => spec_SetPvid a.1 a.2.1 a.2.2 := by kernel_rfl
theorem m_spec_SetPvid : Meets Try.prog 217 F_spec_SetPvid := by
  have h := meets_of (ann := a_spec_SetPvid) (ps := [.val true cVtab false, .val false (.one (.int .i64)) false, .val false (.one (.int .i64)) false]) (rs := [.val true cVtab true, .val false (.one .bool) true]) g_265 mixed Try.func217 (by kernel_rfl) (by kernel_rfl : Try.f217.body = some (codeOf Try.f217))
  rw [e_spec_SetPvid] at h
  exact h
noncomputable def fns_217 : List (FuncId × Fn) := (217, F_spec_SetPvid) :: fns_265
theorem g_217 : Good Try.prog ⟨tis, fns_217⟩ := g_265.cons m_spec_SetPvid
noncomputable def spec_DropRow (v0 : Vtab) (id1 : Int) : Option (Vtab × Bool) :=
  (spec_RowAt v0 id1).bind fun t10 =>
  (spec_VtabOk v0 (v0.2.length : Int)).bind fun t15 =>
  (cond (!t15) (some true) (some (decide (t10 < 0)))).bind fun t20 =>
  cond t20
    ((spec_l9Copy v0).bind fun t22 =>
    some (t22, false))
    ((spec_l9Copy v0).bind fun t24 =>
    (cut v0.1 0 t10).bind fun t29 =>
    (app ([] : List Vrow) t29).bind fun zs30 =>
    (cut v0.1 (w64 (t10 + 1)) (v0.1.length : Int)).bind fun t35 =>
    (app zs30 t35).bind fun zs36 =>
    (spec_l9Or (zs36, t24.2) v0).bind fun t40 =>
    some t40)
noncomputable def F_spec_DropRow : Fn := ⟨[.val true cVtab false, .val false (.one (.int .i64)) false], [.val true cVtab true, .val false (.one .bool) true], fun a => spec_DropRow a.1 a.2⟩
def a_spec_DropRow : List (Nat × LoopAnn) := []
theorem e_spec_DropRow : fnDen ⟨tis, fns_217⟩ a_spec_DropRow Try.f218 (codeOf Try.f218) [.val true cVtab false, .val false (.one (.int .i64)) false] [.val true cVtab true, .val false (.one .bool) true] = fun a => spec_DropRow a.1 a.2 := by kernel_rfl
theorem m_spec_DropRow : Meets Try.prog 218 F_spec_DropRow := by
  have h := meets_of (ann := a_spec_DropRow) (ps := [.val true cVtab false, .val false (.one (.int .i64)) false]) (rs := [.val true cVtab true, .val false (.one .bool) true]) g_217 mixed Try.func218 (by kernel_rfl) (by kernel_rfl : Try.f218.body = some (codeOf Try.f218))
  rw [e_spec_DropRow] at h
  exact h
noncomputable def fns_218 : List (FuncId × Fn) := (218, F_spec_DropRow) :: fns_217
theorem g_218 : Good Try.prog ⟨tis, fns_218⟩ := g_217.cons m_spec_DropRow
noncomputable def spec_l9Row_l0 (p0 : Vtab) (i1 : Vrow) (t6 : Bool) (t7 : Int) (b0 : List Vrow) : Option ((Bool × Int × List Vrow) ⊕ (Bool × List Vrow)) :=
  cond (decide (t7 < (p0.1.length : Int)))
    ((cond (!t6)
      ((at? p0.1 t7).bind fun x26 =>
      some (decide (x26.1 ≥ i1.1)))
      (some false)).bind fun t32 =>
    cond t32
      ((app b0 [i1]).bind fun zs37 =>
      (at? p0.1 t7).bind fun x42 =>
      cond (x42.1 != i1.1)
        ((at? p0.1 t7).bind fun x53 =>
        (app zs37 [x53]).bind fun zs56 =>
        some (.inl (true, w64 (t7 + 1), zs56)))
        (some (.inl (true, w64 (t7 + 1), zs37))))
      ((at? p0.1 t7).bind fun x42_1 =>
      cond (x42_1.1 != i1.1)
        ((at? p0.1 t7).bind fun x53_1 =>
        (app b0 [x53_1]).bind fun zs56_1 =>
        some (.inl (t6, w64 (t7 + 1), zs56_1)))
        (some (.inl (t6, w64 (t7 + 1), b0)))))
    (some (.inr (t6, b0)))
noncomputable def spec_l9Row (p0 : Vtab) (i1 : Vrow) : Option Vtab :=
  (app ([] : List Int) p0.2).bind fun zs11 =>
  (loop (fun z => spec_l9Row_l0 p0 i1 z.1 z.2.1 z.2.2) (false, 0, [])).bind fun d =>
  cond (!d.1)
    ((app d.2 [i1]).bind fun zs64 =>
    some (zs64, zs11))
    (some (d.2, zs11))
noncomputable def F_spec_l9Row : Fn := ⟨[.val true cVtab false, .val true cVrow false], [.val true cVtab true], fun a => spec_l9Row a.1 a.2⟩
def a_spec_l9Row : List (Nat × LoopAnn) := [(0, ⟨⟨[(6, false, [.dat .bool]), (7, false, [.dat (.int .i64)]), (23, false, [.undef]), (24, false, [.undef]), (25, false, [.undef]), (26, false, [.undef]), (27, false, [.undef]), (28, false, [.undef]), (29, false, [.undef]), (30, false, [.undef]), (31, false, [.undef])], [(268288, .box [.own 1000000000, .same 266240]), (1000000000, .root cVrow true)]⟩,
    ⟨[(6, false, [.dat .bool])], [(268288, .box [.own 1000000300, .same 266240]), (1000000300, .root cVrow true)]⟩, none⟩)]
theorem e_spec_l9Row : fnDen ⟨tis, fns_218⟩ a_spec_l9Row Try.f247 (codeOf Try.f247) [.val true cVtab false, .val true cVrow false] [.val true cVtab true] = fun a => spec_l9Row a.1 a.2 := by kernel_rfl
theorem m_spec_l9Row : Meets Try.prog 247 F_spec_l9Row := by
  have h := meets_of (ann := a_spec_l9Row) (ps := [.val true cVtab false, .val true cVrow false]) (rs := [.val true cVtab true]) g_218 mixed Try.func247 (by kernel_rfl) (by kernel_rfl : Try.f247.body = some (codeOf Try.f247))
  rw [e_spec_l9Row] at h
  exact h
noncomputable def fns_247 : List (FuncId × Fn) := (247, F_spec_l9Row) :: fns_218
theorem g_247 : Good Try.prog ⟨tis, fns_247⟩ := g_218.cons m_spec_l9Row
noncomputable def spec_PutRow (v0 : Vtab) (r1 : Vrow) : Option (Vtab × Bool) :=
  (spec_VtabOk v0 (v0.2.length : Int)).bind fun t10 =>
  cond (!t10)
    ((spec_l9Copy v0).bind fun t13 =>
    some (t13, false))
    ((spec_l9Row v0 r1).bind fun t16 =>
    (spec_l9Or t16 v0).bind fun t18 =>
    some t18)
noncomputable def F_spec_PutRow : Fn := ⟨[.val true cVtab false, .val true cVrow false], [.val true cVtab true, .val false (.one .bool) true], fun a => spec_PutRow a.1 a.2⟩
def a_spec_PutRow : List (Nat × LoopAnn) := []
theorem e_spec_PutRow : fnDen ⟨tis, fns_247⟩ a_spec_PutRow Try.f219 (codeOf Try.f219) [.val true cVtab false, .val true cVrow false] [.val true cVtab true, .val false (.one .bool) true] = fun a => spec_PutRow a.1 a.2 := by kernel_rfl
theorem m_spec_PutRow : Meets Try.prog 219 F_spec_PutRow := by
  have h := meets_of (ann := a_spec_PutRow) (ps := [.val true cVtab false, .val true cVrow false]) (rs := [.val true cVtab true, .val false (.one .bool) true]) g_247 mixed Try.func219 (by kernel_rfl) (by kernel_rfl : Try.f219.body = some (codeOf Try.f219))
  rw [e_spec_PutRow] at h
  exact h
noncomputable def fns_219 : List (FuncId × Fn) := (219, F_spec_PutRow) :: fns_247
theorem g_219 : Good Try.prog ⟨tis, fns_219⟩ := g_247.cons m_spec_PutRow
noncomputable def spec_l9Row2 (c0 : L1Cur) (ports1 : Int) : Option (L1Cur × Vrow) :=
  (shl .i64 1 (IntKind.u64.wrap (ports1))).bind fun t9 =>
  (spec_l1Below c0 (w64 ((w64 (t9 - 1)) + 1))).bind fun t14 =>
  (spec_l1Int t14.1 ([1, 2, 3, 2] : List Int)).bind fun t17 =>
  (spec_l1Below t17.1 (w64 ((w64 (t9 - 1)) + 1))).bind fun t23 =>
  some (t23.1, (t17.2, t14.2, band .i64 t14.2 t23.2))
noncomputable def F_spec_l9Row2 : Fn := ⟨[.ptr cL1Cur false, .val false (.one (.int .i64)) false], [.val true cVrow true], fun a => spec_l9Row2 a.1 a.2⟩
def a_spec_l9Row2 : List (Nat × LoopAnn) := []
theorem e_spec_l9Row2 : fnDen ⟨tis, fns_219⟩ a_spec_l9Row2 Try.f220 (codeOf Try.f220) [.ptr cL1Cur false, .val false (.one (.int .i64)) false] [.val true cVrow true] = fun a => spec_l9Row2 a.1 a.2 := by kernel_rfl
theorem m_spec_l9Row2 : Meets Try.prog 220 F_spec_l9Row2 := by
  have h := meets_of (ann := a_spec_l9Row2) (ps := [.ptr cL1Cur false, .val false (.one (.int .i64)) false]) (rs := [.val true cVrow true]) g_219 mixed Try.func220 (by kernel_rfl) (by kernel_rfl : Try.f220.body = some (codeOf Try.f220))
  rw [e_spec_l9Row2] at h
  exact h
noncomputable def fns_220 : List (FuncId × Fn) := (220, F_spec_l9Row2) :: fns_219
theorem g_220 : Good Try.prog ⟨tis, fns_220⟩ := g_219.cons m_spec_l9Row2
noncomputable def spec_l9Draw_l0 (ports1 : Int) (i6 : Int) (b0 : List Int) (b1 : Int) (b2 : Int) (b0_1 : List Vrow) (b1_1 : List Int) : Option ((Int × List Int × Int × Int × List Vrow × List Int) ⊕ (List Int × Int × Int × List Vrow × List Int)) :=
  cond (decide (i6 > 0))
    ((spec_l1Below (b0, b1, b2) 4).bind fun t16 =>
    cond (t16.2 == 0)
      ((spec_l1Below t16.1 ports1).bind fun t31 =>
      (spec_l1Below t31.1 3).bind fun t33 =>
      (spec_SetPvid (b0_1, b1_1) t31.2 (w64 (1 + t33.2))).bind fun t35 =>
      some (.inl (w64 (i6 - 1), t33.1.1, t33.1.2.1, t33.1.2.2, t35.1.1, t35.1.2)))
      (cond (t16.2 == 1)
        ((spec_l1Below t16.1 2).bind fun t43 =>
        (spec_DropRow (b0_1, b1_1) (w64 (2 + t43.2))).bind fun t45 =>
        some (.inl (w64 (i6 - 1), t43.1.1, t43.1.2.1, t43.1.2.2, t45.1.1, t45.1.2)))
        ((spec_l9Row2 t16.1 ports1).bind fun t21 =>
        (spec_PutRow (b0_1, b1_1) t21.2).bind fun t22 =>
        some (.inl (w64 (i6 - 1), t21.1.1, t21.1.2.1, t21.1.2.2, t22.1.1, t22.1.2)))))
    (some (.inr (b0, b1, b2, b0_1, b1_1)))
noncomputable def spec_l9Draw (c0 : L1Cur) (ports1 : Int) : Option (L1Cur × Vtab) :=
  (spec_VtabNew ports1).bind fun t8 =>
  (spec_l1Below c0 6).bind fun t10 =>
  (loop (fun z => spec_l9Draw_l0 ports1 z.1 z.2.1 z.2.2.1 z.2.2.2.1 z.2.2.2.2.1 z.2.2.2.2.2) (t10.2, t10.1.1, t10.1.2.1, t10.1.2.2, t8.1, t8.2)).bind fun d =>
  some ((d.1, d.2.1, d.2.2.1), d.2.2.2)
noncomputable def F_spec_l9Draw : Fn := ⟨[.ptr cL1Cur false, .val false (.one (.int .i64)) false], [.val true cVtab true], fun a => spec_l9Draw a.1 a.2⟩
def a_spec_l9Draw : List (Nat × LoopAnn) := [(0, ⟨⟨[(6, false, [.dat (.int .i64)])], [(1, .box [.dat (.sl (.one (.int .u8))), .dat (.int .i64), .dat (.int .i64)]), (265216, .box [.own 1000000000, .own 1000000001]), (1000000000, .root cVrow true), (1000000001, .root (.one (.int .i64)) true)]⟩,
    ⟨[], [(1, .box [.dat (.sl (.one (.int .u8))), .dat (.int .i64), .dat (.int .i64)]), (265216, .box [.own 1000000300, .own 1000000301]), (1000000300, .root cVrow true), (1000000301, .root (.one (.int .i64)) true)]⟩, none⟩)]
theorem e_spec_l9Draw : fnDen ⟨tis, fns_220⟩ a_spec_l9Draw Try.f154 (codeOf Try.f154) [.ptr cL1Cur false, .val false (.one (.int .i64)) false] [.val true cVtab true] = fun a => spec_l9Draw a.1 a.2 := by kernel_rfl
theorem m_spec_l9Draw : Meets Try.prog 154 F_spec_l9Draw := by
  have h := meets_of (ann := a_spec_l9Draw) (ps := [.ptr cL1Cur false, .val false (.one (.int .i64)) false]) (rs := [.val true cVtab true]) g_220 mixed Try.func154 (by kernel_rfl) (by kernel_rfl : Try.f154.body = some (codeOf Try.f154))
  rw [e_spec_l9Draw] at h
  exact h
noncomputable def fns_154 : List (FuncId × Fn) := (154, F_spec_l9Draw) :: fns_220
theorem g_154 : Good Try.prog ⟨tis, fns_154⟩ := g_220.cons m_spec_l9Draw
noncomputable def spec_l8Copy (l0 : List Fent) : Option (List Fent) :=
  (app ([] : List Fent) l0).bind fun zs5 =>
  some zs5
noncomputable def F_spec_l8Copy : Fn := ⟨[.val false (.one (.sl cFent)) false], [.val false (.one (.sl cFent)) true], fun a => spec_l8Copy a⟩
def a_spec_l8Copy : List (Nat × LoopAnn) := []
theorem e_spec_l8Copy : fnDen ⟨tis, fns_154⟩ a_spec_l8Copy Try.f198 (codeOf Try.f198) [.val false (.one (.sl cFent)) false] [.val false (.one (.sl cFent)) true] = fun a => spec_l8Copy a := by kernel_rfl
theorem m_spec_l8Copy : Meets Try.prog 198 F_spec_l8Copy := by
  have h := meets_of (ann := a_spec_l8Copy) (ps := [.val false (.one (.sl cFent)) false]) (rs := [.val false (.one (.sl cFent)) true]) g_154 mixed Try.func198 (by kernel_rfl) (by kernel_rfl : Try.f198.body = some (codeOf Try.f198))
  rw [e_spec_l8Copy] at h
  exact h
noncomputable def fns_198 : List (FuncId × Fn) := (198, F_spec_l8Copy) :: fns_154
theorem g_198 : Good Try.prog ⟨tis, fns_198⟩ := g_154.cons m_spec_l8Copy
noncomputable def spec_l8At_l0 (l0 : List Fent) (tag1 : Int) (mac2 : Int) (i7 : Int) : Option (Int ⊕ (Unit ⊕ Int)) :=
  cond (decide (i7 < (l0.length : Int)))
    ((at? l0 i7).bind fun x16 =>
    (cond (x16.1 == tag1)
      ((at? l0 i7).bind fun x24 =>
      some (x24.2.1 == mac2))
      (some false)).bind fun t29 =>
    cond t29 (some (.inr (.inr i7))) (some (.inl (w64 (i7 + 1)))))
    (some (.inr (.inl ())))
noncomputable def spec_l8At (l0 : List Fent) (tag1 : Int) (mac2 : Int) : Option Int :=
  (loop (fun z => spec_l8At_l0 l0 tag1 mac2 z) 0).bind (Sum.elim (fun d =>
    some (-1)) (fun r => some r))
noncomputable def F_spec_l8At : Fn := ⟨[.val false (.one (.sl cFent)) false, .val false (.one (.int .i64)) false, .val false (.one (.int .i64)) false], [.val false (.one (.int .i64)) true], fun a => spec_l8At a.1 a.2.1 a.2.2⟩
def a_spec_l8At : List (Nat × LoopAnn) := [(0, ⟨⟨[(7, false, [.dat (.int .i64)]), (22, false, [.undef]), (23, false, [.undef]), (24, false, [.undef]), (25, false, [.undef]), (26, false, [.undef]), (27, false, [.undef]), (28, false, [.undef])], []⟩,
    ⟨[], []⟩, some ⟨[(6, false, [.dat (.int .i64)])], []⟩⟩)]
theorem e_spec_l8At : fnDen ⟨tis, fns_198⟩ a_spec_l8At Try.f221 (codeOf Try.f221) [.val false (.one (.sl cFent)) false, .val false (.one (.int .i64)) false, .val false (.one (.int .i64)) false] [.val false (.one (.int .i64)) true] = fun a => spec_l8At a.1 a.2.1 a.2.2 := by kernel_rfl
theorem m_spec_l8At : Meets Try.prog 221 F_spec_l8At := by
  have h := meets_of (ann := a_spec_l8At) (ps := [.val false (.one (.sl cFent)) false, .val false (.one (.int .i64)) false, .val false (.one (.int .i64)) false]) (rs := [.val false (.one (.int .i64)) true]) g_198 mixed Try.func221 (by kernel_rfl) (by kernel_rfl : Try.f221.body = some (codeOf Try.f221))
  rw [e_spec_l8At] at h
  exact h
noncomputable def fns_221 : List (FuncId × Fn) := (221, F_spec_l8At) :: fns_198
theorem g_221 : Good Try.prog ⟨tis, fns_221⟩ := g_198.cons m_spec_l8At
noncomputable def spec_l8Put_l0 (p0 : List Fent) (i1 : Fent) (t6 : Bool) (t7 : Int) (t5 : List Fent) : Option ((Bool × Int × List Fent) ⊕ (Bool × List Fent)) :=
  cond (decide (t7 < (p0.length : Int)))
    ((cond (!t6)
      ((at? p0 t7).bind fun x20 =>
      (spec_l8Ahead x20 i1.1 i1.2.1).bind fun t26 =>
      some (!t26))
      (some false)).bind fun t28 =>
    cond t28
      ((app t5 [i1]).bind fun zs32 =>
      (at? p0 t7).bind fun x35 =>
      (cond (x35.1 != i1.1)
        (some true)
        ((at? p0 t7).bind fun x44 =>
        some (x44.2.1 != i1.2.1))).bind fun t50 =>
      cond t50
        ((at? p0 t7).bind fun x54 =>
        (app zs32 [x54]).bind fun zs57 =>
        some (.inl (true, w64 (t7 + 1), zs57)))
        (some (.inl (true, w64 (t7 + 1), zs32))))
      ((at? p0 t7).bind fun x35_1 =>
      (cond (x35_1.1 != i1.1)
        (some true)
        ((at? p0 t7).bind fun x44_1 =>
        some (x44_1.2.1 != i1.2.1))).bind fun t50_1 =>
      cond t50_1
        ((at? p0 t7).bind fun x54_1 =>
        (app t5 [x54_1]).bind fun zs57_1 =>
        some (.inl (t6, w64 (t7 + 1), zs57_1)))
        (some (.inl (t6, w64 (t7 + 1), t5)))))
    (some (.inr (t6, t5)))
noncomputable def spec_l8Put (p0 : List Fent) (i1 : Fent) : Option (List Fent) :=
  (loop (fun z => spec_l8Put_l0 p0 i1 z.1 z.2.1 z.2.2) (false, 0, ([] : List Fent))).bind fun d =>
  cond (!d.1)
    ((app d.2 [i1]).bind fun zs63 =>
    some zs63)
    (some d.2)
noncomputable def F_spec_l8Put : Fn := ⟨[.val false (.one (.sl cFent)) false, .val true cFent false], [.val false (.one (.sl cFent)) true], fun a => spec_l8Put a.1 a.2⟩
def a_spec_l8Put : List (Nat × LoopAnn) := [(0, ⟨⟨[(5, false, [.own 1000000000]), (6, false, [.dat .bool]), (7, false, [.dat (.int .i64)]), (18, false, [.undef]), (19, false, [.undef]), (20, false, [.undef]), (21, false, [.undef]), (22, false, [.undef]), (23, false, [.undef]), (24, false, [.undef]), (25, false, [.undef]), (26, false, [.undef]), (27, false, [.undef]), (42, false, [.undef]), (43, false, [.undef]), (44, false, [.undef]), (45, false, [.undef]), (46, false, [.undef]), (47, false, [.undef]), (48, false, [.undef]), (49, false, [.undef])], [(1000000000, .root cFent true)]⟩,
    ⟨[(5, false, [.own 1000000300]), (6, false, [.dat .bool])], [(1000000300, .root cFent true)]⟩, none⟩)]
theorem e_spec_l8Put : fnDen ⟨tis, fns_221⟩ a_spec_l8Put Try.f223 (codeOf Try.f223) [.val false (.one (.sl cFent)) false, .val true cFent false] [.val false (.one (.sl cFent)) true] = fun a => spec_l8Put a.1 a.2 := by kernel_rfl
theorem m_spec_l8Put : Meets Try.prog 223 F_spec_l8Put := by
  have h := meets_of (ann := a_spec_l8Put) (ps := [.val false (.one (.sl cFent)) false, .val true cFent false]) (rs := [.val false (.one (.sl cFent)) true]) g_221 mixed Try.func223 (by kernel_rfl) (by kernel_rfl : Try.f223.body = some (codeOf Try.f223))
  rw [e_spec_l8Put] at h
  exact h
noncomputable def fns_223 : List (FuncId × Fn) := (223, F_spec_l8Put) :: fns_221
theorem g_223 : Good Try.prog ⟨tis, fns_223⟩ := g_221.cons m_spec_l8Put
noncomputable def spec_Learn (l0 : List Fent) (tag1 : Int) (mac2 : Int) (port3 : Int) : Option (List Fent) :=
  (spec_l8At l0 tag1 mac2).bind fun t18 =>
  (spec_FdbOk l0).bind fun t20 =>
  (cond (!t20)
    (some true)
    ((spec_l8Ent (tag1, mac2, port3, 0, false)).bind fun t24 =>
    some (!t24))).bind fun t26 =>
  (cond t26
    (some true)
    ((cond (decide (t18 ≥ 0))
      ((at? l0 t18).bind fun x33 =>
      some x33.2.2.2.2)
      (some false)).bind fun t36 =>
    some t36)).bind fun t37 =>
  (cond t37
    (some true)
    ((cond (decide (t18 < 0)) (some (decide ((l0.length : Int) ≥ 12))) (some false)).bind fun t45 =>
    some t45)).bind fun t46 =>
  cond t46
    ((spec_l8Copy l0).bind fun t48 =>
    some t48)
    ((spec_l8Put l0 (tag1, mac2, port3, 0, false)).bind fun t51 =>
    some t51)
noncomputable def F_spec_Learn : Fn := ⟨[.val false (.one (.sl cFent)) false, .val false (.one (.int .i64)) false, .val false (.one (.int .i64)) false, .val false (.one (.int .i64)) false], [.val false (.one (.sl cFent)) true], fun a => spec_Learn a.1 a.2.1 a.2.2.1 a.2.2.2⟩
def a_spec_Learn : List (Nat × LoopAnn) := []
theorem e_spec_Learn : fnDen ⟨tis, fns_223⟩ a_spec_Learn Try.f155 (codeOf Try.f155) [.val false (.one (.sl cFent)) false, .val false (.one (.int .i64)) false, .val false (.one (.int .i64)) false, .val false (.one (.int .i64)) false] [.val false (.one (.sl cFent)) true] = fun a => spec_Learn a.1 a.2.1 a.2.2.1 a.2.2.2 := by kernel_rfl
theorem m_spec_Learn : Meets Try.prog 155 F_spec_Learn := by
  have h := meets_of (ann := a_spec_Learn) (ps := [.val false (.one (.sl cFent)) false, .val false (.one (.int .i64)) false, .val false (.one (.int .i64)) false, .val false (.one (.int .i64)) false]) (rs := [.val false (.one (.sl cFent)) true]) g_223 mixed Try.func155 (by kernel_rfl) (by kernel_rfl : Try.f155.body = some (codeOf Try.f155))
  rw [e_spec_Learn] at h
  exact h
noncomputable def fns_155 : List (FuncId × Fn) := (155, F_spec_Learn) :: fns_223
theorem g_155 : Good Try.prog ⟨tis, fns_155⟩ := g_223.cons m_spec_Learn
noncomputable def spec_l6Mac (c0 : L1Cur) : Option (L1Cur × Int) :=
  (spec_l1Int c0 ([11, 12, 13, 14] : List Int)).bind fun t5 =>
  some t5
noncomputable def F_spec_l6Mac : Fn := ⟨[.ptr cL1Cur false], [.val false (.one (.int .i64)) true], fun a => spec_l6Mac a⟩
def a_spec_l6Mac : List (Nat × LoopAnn) := []
theorem e_spec_l6Mac : fnDen ⟨tis, fns_155⟩ a_spec_l6Mac Try.f156 (codeOf Try.f156) [.ptr cL1Cur false] [.val false (.one (.int .i64)) true] = fun a => spec_l6Mac a := by kernel_rfl
theorem m_spec_l6Mac : Meets Try.prog 156 F_spec_l6Mac := by
  have h := meets_of (ann := a_spec_l6Mac) (ps := [.ptr cL1Cur false]) (rs := [.val false (.one (.int .i64)) true]) g_155 mixed Try.func156 (by kernel_rfl) (by kernel_rfl : Try.f156.body = some (codeOf Try.f156))
  rw [e_spec_l6Mac] at h
  exact h
noncomputable def fns_156 : List (FuncId × Fn) := (156, F_spec_l6Mac) :: fns_155
theorem g_156 : Good Try.prog ⟨tis, fns_156⟩ := g_155.cons m_spec_l6Mac
noncomputable def spec_SetStatic (l0 : List Fent) (tag1 : Int) (mac2 : Int) (port3 : Int) : Option ((List Fent) × Bool) :=
  (spec_FdbOk l0).bind fun t16 =>
  (cond (!t16)
    (some true)
    ((spec_l8Ent (tag1, mac2, port3, 0, true)).bind fun t20 =>
    some (!t20))).bind fun t22 =>
  (cond t22
    (some true)
    ((spec_l8At l0 tag1 mac2).bind fun t27 =>
    (cond (decide (t27 < 0)) (some (decide ((l0.length : Int) ≥ 12))) (some false)).bind fun t33 =>
    some t33)).bind fun t34 =>
  cond t34
    ((spec_l8Copy l0).bind fun t36 =>
    some (t36, false))
    ((spec_l8Put l0 (tag1, mac2, port3, 0, true)).bind fun t39 =>
    some (t39, true))
noncomputable def F_spec_SetStatic : Fn := ⟨[.val false (.one (.sl cFent)) false, .val false (.one (.int .i64)) false, .val false (.one (.int .i64)) false, .val false (.one (.int .i64)) false], [.val false (.one (.sl cFent)) true, .val false (.one .bool) true], fun a => spec_SetStatic a.1 a.2.1 a.2.2.1 a.2.2.2⟩
def a_spec_SetStatic : List (Nat × LoopAnn) := []
theorem e_spec_SetStatic : fnDen ⟨tis, fns_156⟩ a_spec_SetStatic Try.f157 (codeOf Try.f157) [.val false (.one (.sl cFent)) false, .val false (.one (.int .i64)) false, .val false (.one (.int .i64)) false, .val false (.one (.int .i64)) false] [.val false (.one (.sl cFent)) true, .val false (.one .bool) true] = fun a => spec_SetStatic a.1 a.2.1 a.2.2.1 a.2.2.2 := by kernel_rfl
theorem m_spec_SetStatic : Meets Try.prog 157 F_spec_SetStatic := by
  have h := meets_of (ann := a_spec_SetStatic) (ps := [.val false (.one (.sl cFent)) false, .val false (.one (.int .i64)) false, .val false (.one (.int .i64)) false, .val false (.one (.int .i64)) false]) (rs := [.val false (.one (.sl cFent)) true, .val false (.one .bool) true]) g_156 mixed Try.func157 (by kernel_rfl) (by kernel_rfl : Try.f157.body = some (codeOf Try.f157))
  rw [e_spec_SetStatic] at h
  exact h
noncomputable def fns_157 : List (FuncId × Fn) := (157, F_spec_SetStatic) :: fns_156
theorem g_157 : Good Try.prog ⟨tis, fns_157⟩ := g_156.cons m_spec_SetStatic
noncomputable def spec_l11Draw_l0 (t7 : L1Cur × Int) (t5 : Int) (b0 : List Int) (b1 : Int) (b2 : Int) (b0_1 : Int) (b1_1 : List UInt8) (b6 : Int) (b7 : Int) (b8 : Int) (b9 : Int) (b10 : Int) (b3 : List Fent) : Option ((Int × List Int × Int × Int × Int × List UInt8 × Int × Int × Int × Int × Int × List Fent) ⊕ (List Int × Int × Int × Int × List UInt8 × Int × Int × Int × Int × Int × List Fent)) :=
  cond (decide (t5 > 0))
    ((spec_l1Below (b0, b1, b2) 3).bind fun t35 =>
    (spec_l6Mac t35.1).bind fun t38 =>
    (spec_l1Below t38.1 (w64 (1 + t7.2))).bind fun t41 =>
    (spec_Learn b3 (w64 (1 + t35.2)) t38.2 t41.2).bind fun t42 =>
    some (.inl (w64 (t5 - 1), t41.1.1, t41.1.2.1, t41.1.2.2, b0_1, b1_1, b6, b7, b8, b9, b10, t42)))
    (some (.inr (b0, b1, b2, b0_1, b1_1, b6, b7, b8, b9, b10, b3)))
noncomputable def spec_l11Draw (p0 : L1Cur) : Option (L1Cur × Bridge) :=
  (spec_l1Below p0 4).bind fun t7 =>
  (spec_l1Below t7.1 5).bind fun t10 =>
  (spec_BridgeNew (w64 (1 + t10.2)) (w64 (1 + t7.2))).bind fun t13 =>
  (spec_l1Str t10.1 ([[], [121, 97, 114, 100], [98, 49]] : List (List UInt8))).bind fun t16 =>
  (spec_l10Draw t16.1 (w64 (1 + t7.2))).bind fun t20 =>
  (spec_l9Draw t20.1 (w64 (1 + t7.2))).bind fun t24 =>
  (spec_l1Below t24.1 6).bind fun t27 =>
  (loop (fun z => spec_l11Draw_l0 t7 z.1 z.2.1 z.2.2.1 z.2.2.2.1 z.2.2.2.2.1 z.2.2.2.2.2.1 z.2.2.2.2.2.2.1 z.2.2.2.2.2.2.2.1 z.2.2.2.2.2.2.2.2.1 z.2.2.2.2.2.2.2.2.2.1 z.2.2.2.2.2.2.2.2.2.2.1 z.2.2.2.2.2.2.2.2.2.2.2) (t27.2, t27.1.1, t27.1.2.1, t27.1.2.2, t13.1, t16.2, t13.2.2.2.2.2.2.1, t13.2.2.2.2.2.2.2.1, t13.2.2.2.2.2.2.2.2.1, t13.2.2.2.2.2.2.2.2.2.1, t13.2.2.2.2.2.2.2.2.2.2, t13.2.2.2.1)).bind fun d =>
  (spec_l1Once (d.1, d.2.1, d.2.2.1) 3).bind fun t45 =>
  cond t45.2
    ((spec_l6Mac t45.1).bind fun t50 =>
    (spec_l1Below t50.1 (w64 (1 + t7.2))).bind fun t53 =>
    (spec_SetStatic d.2.2.2.2.2.2.2.2.2.2 1 t50.2 t53.2).bind fun t54 =>
    (spec_l1Below t53.1 5).bind fun t59 =>
    (spec_l1Int t59.1 ([0, 1, 5, 1000000] : List Int)).bind fun t63 =>
    some (t63.1, (d.2.2.2.1, d.2.2.2.2.1, t20.2, t54.1, t24.2.1, t24.2.2, t59.2, d.2.2.2.2.2.2.1, d.2.2.2.2.2.2.2.1, d.2.2.2.2.2.2.2.2.1, t63.2)))
    ((spec_l1Below t45.1 5).bind fun t59_1 =>
    (spec_l1Int t59_1.1 ([0, 1, 5, 1000000] : List Int)).bind fun t63_1 =>
    some (t63_1.1, (d.2.2.2.1, d.2.2.2.2.1, t20.2, d.2.2.2.2.2.2.2.2.2.2, t24.2.1, t24.2.2, t59_1.2, d.2.2.2.2.2.2.1, d.2.2.2.2.2.2.2.1, d.2.2.2.2.2.2.2.2.1, t63_1.2)))
noncomputable def F_spec_l11Draw : Fn := ⟨[.ptr cL1Cur false], [.val true cBridge true], fun a => spec_l11Draw a⟩
def a_spec_l11Draw : List (Nat × LoopAnn) := [(0, ⟨⟨[(5, false, [.dat (.int .i64)])], [(1, .box [.dat (.sl (.one (.int .u8))), .dat (.int .i64), .dat (.int .i64)]), (530432, .box [.dat (.int .i64), .dat .str, .same 1051712, .own 1000000000, .same 1313856, .same 1313857, .dat (.int .i64), .dat (.int .i64), .dat (.int .i64), .dat (.int .i64), .dat (.int .i64)]), (1000000000, .root cFent true)]⟩,
    ⟨[], [(1, .box [.dat (.sl (.one (.int .u8))), .dat (.int .i64), .dat (.int .i64)]), (530432, .box [.dat (.int .i64), .dat .str, .same 1051712, .own 1000000300, .same 1313856, .same 1313857, .dat (.int .i64), .dat (.int .i64), .dat (.int .i64), .dat (.int .i64), .dat (.int .i64)]), (1000000300, .root cFent true)]⟩, none⟩)]
theorem e_spec_l11Draw : fnDen ⟨tis, fns_157⟩ a_spec_l11Draw Try.f78 (codeOf Try.f78) [.ptr cL1Cur false] [.val true cBridge true] = fun a => spec_l11Draw a := by kernel_rfl
theorem m_spec_l11Draw : Meets Try.prog 78 F_spec_l11Draw := by
  have h := meets_of (ann := a_spec_l11Draw) (ps := [.ptr cL1Cur false]) (rs := [.val true cBridge true]) g_157 mixed Try.func78 (by kernel_rfl) (by kernel_rfl : Try.f78.body = some (codeOf Try.f78))
  rw [e_spec_l11Draw] at h
  exact h
noncomputable def fns_78 : List (FuncId × Fn) := (78, F_spec_l11Draw) :: fns_157
theorem g_78 : Good Try.prog ⟨tis, fns_78⟩ := g_157.cons m_spec_l11Draw
noncomputable def spec_l7Any (c0 : L1Cur) : Option (L1Cur × Vec) :=
  (spec_l7Draw c0).bind fun t5 =>
  (spec_l1Below t5.1 12).bind fun t7 =>
  cond (t7.2 == 0)
    ((spec_l1Int t7.1 ([0, 99, 100] : List Int)).bind fun t12 =>
    some (t12.1, (t12.2, t5.2.2.1, t5.2.2.2.1, t5.2.2.2.2.1, t5.2.2.2.2.2)))
    (cond (t7.2 == 1)
      ((spec_l1Int t7.1 ([(-1), 99999, 100000, 100001] : List Int)).bind fun t18 =>
      some (t18.1, (t5.2.1, t18.2, t5.2.2.2.1, t5.2.2.2.2.1, t5.2.2.2.2.2)))
      (cond (t7.2 == 2)
        ((spec_l1Int t7.1 ([(-1), 11] : List Int)).bind fun t24 =>
        some (t24.1, (t5.2.1, t5.2.2.1, t24.2, t5.2.2.2.2.1, t5.2.2.2.2.2)))
        (cond (t7.2 == 3)
          ((spec_l1Int t7.1 ([(-1), 7, 8] : List Int)).bind fun t30 =>
          some (t30.1, (t5.2.1, t5.2.2.1, t5.2.2.2.1, t5.2.2.2.2.1, t30.2)))
          (some (t7.1, t5.2)))))
noncomputable def F_spec_l7Any : Fn := ⟨[.ptr cL1Cur false], [.val true cVec true], fun a => spec_l7Any a⟩
def a_spec_l7Any : List (Nat × LoopAnn) := []
theorem e_spec_l7Any : fnDen ⟨tis, fns_78⟩ a_spec_l7Any Try.f245 (codeOf Try.f245) [.ptr cL1Cur false] [.val true cVec true] = fun a => spec_l7Any a := by kernel_rfl
theorem m_spec_l7Any : Meets Try.prog 245 F_spec_l7Any := by
  have h := meets_of (ann := a_spec_l7Any) (ps := [.ptr cL1Cur false]) (rs := [.val true cVec true]) g_78 mixed Try.func245 (by kernel_rfl) (by kernel_rfl : Try.f245.body = some (codeOf Try.f245))
  rw [e_spec_l7Any] at h
  exact h
noncomputable def fns_245 : List (FuncId × Fn) := (245, F_spec_l7Any) :: fns_78
theorem g_245 : Good Try.prog ⟨tis, fns_245⟩ := g_78.cons m_spec_l7Any
noncomputable def spec_l10Any (c0 : L1Cur) : Option (L1Cur × List Pt) :=
  (spec_l1Below c0 4).bind fun t6 =>
  (spec_l10Draw t6.1 (w64 (1 + t6.2))).bind fun t8 =>
  (spec_l1Below t8.1 12).bind fun t10 =>
  cond (t10.2 == 0)
    ((spec_l7Any t10.1).bind fun t15 =>
    (ix t8.2.length 0).bind fun j16 =>
    (t8.2[j16]?).bind fun x =>
    some (t15.1, t8.2.set j16 (x.1, x.2.1, x.2.2.1, t15.2.1, t15.2.2.1, t15.2.2.2.1, t15.2.2.2.2.1, t15.2.2.2.2.2)))
    (cond (t10.2 == 1)
      ((spec_l1Int t10.1 ([0, 1000, 1001] : List Int)).bind fun t23 =>
      (ix t8.2.length 0).bind fun j24 =>
      (t8.2[j24]?).bind fun x_1 =>
      some (t23.1, t8.2.set j24 (x_1.1, t23.2, x_1.2.2.1, x_1.2.2.2.1, x_1.2.2.2.2.1, x_1.2.2.2.2.2.1, x_1.2.2.2.2.2.2.1, x_1.2.2.2.2.2.2.2)))
      (cond (t10.2 == 2)
        ((ix t8.2.length 0).bind fun j29 =>
        (t8.2[j29]?).bind fun x_2 =>
        some (t10.1, t8.2.set j29 (false, x_2.2.1, x_2.2.2.1, x_2.2.2.2.1, x_2.2.2.2.2.1, x_2.2.2.2.2.2.1, x_2.2.2.2.2.2.2.1, x_2.2.2.2.2.2.2.2)))
        (some (t10.1, t8.2))))
noncomputable def F_spec_l10Any : Fn := ⟨[.ptr cL1Cur false], [.val false (.one (.sl cPt)) true], fun a => spec_l10Any a⟩
def a_spec_l10Any : List (Nat × LoopAnn) := []
theorem e_spec_l10Any : fnDen ⟨tis, fns_245⟩ a_spec_l10Any Try.f184 (codeOf Try.f184) [.ptr cL1Cur false] [.val false (.one (.sl cPt)) true] = fun a => spec_l10Any a := by kernel_rfl
theorem m_spec_l10Any : Meets Try.prog 184 F_spec_l10Any := by
  have h := meets_of (ann := a_spec_l10Any) (ps := [.ptr cL1Cur false]) (rs := [.val false (.one (.sl cPt)) true]) g_245 mixed Try.func184 (by kernel_rfl) (by kernel_rfl : Try.f184.body = some (codeOf Try.f184))
  rw [e_spec_l10Any] at h
  exact h
noncomputable def fns_184 : List (FuncId × Fn) := (184, F_spec_l10Any) :: fns_245
theorem g_184 : Good Try.prog ⟨tis, fns_184⟩ := g_245.cons m_spec_l10Any
noncomputable def spec_AgeAll_l0 (l0 : List Fent) (i4 : Int) (out3 : List Fent) : Option ((Int × List Fent) ⊕ (List Fent)) :=
  cond (decide (i4 < (l0.length : Int)))
    ((at? l0 i4).bind fun x15 =>
    cond x15.2.2.2.2
      ((app out3 [x15]).bind fun zs22 =>
      some (.inl (w64 (i4 + 1), zs22)))
      (cond (decide (x15.2.2.2.1 < 4))
        ((app out3 [(x15.1, x15.2.1, x15.2.2.1, w64 (x15.2.2.2.1 + 1), x15.2.2.2.2)]).bind fun zs33 =>
        some (.inl (w64 (i4 + 1), zs33)))
        (some (.inl (w64 (i4 + 1), out3)))))
    (some (.inr out3))
noncomputable def spec_AgeAll (l0 : List Fent) : Option (List Fent) :=
  (loop (fun z => spec_AgeAll_l0 l0 z.1 z.2) (0, ([] : List Fent))).bind fun d =>
  some d
noncomputable def F_spec_AgeAll : Fn := ⟨[.val false (.one (.sl cFent)) false], [.val false (.one (.sl cFent)) true], fun a => spec_AgeAll a⟩
def a_spec_AgeAll : List (Nat × LoopAnn) := [(0, ⟨⟨[(3, false, [.own 1000000000]), (4, false, [.dat (.int .i64)])], [(1000000000, .root cFent true)]⟩,
    ⟨[(3, false, [.own 1000000300])], [(1000000300, .root cFent true)]⟩, none⟩)]
theorem e_spec_AgeAll : fnDen ⟨tis, fns_184⟩ a_spec_AgeAll Try.f268 (codeOf Try.f268) [.val false (.one (.sl cFent)) false] [.val false (.one (.sl cFent)) true] = fun a => spec_AgeAll a := by kernel_rfl
theorem m_spec_AgeAll : Meets Try.prog 268 F_spec_AgeAll := by
  have h := meets_of (ann := a_spec_AgeAll) (ps := [.val false (.one (.sl cFent)) false]) (rs := [.val false (.one (.sl cFent)) true]) g_184 mixed Try.func268 (by kernel_rfl) (by kernel_rfl : Try.f268.body = some (codeOf Try.f268))
  rw [e_spec_AgeAll] at h
  exact h
noncomputable def fns_268 : List (FuncId × Fn) := (268, F_spec_AgeAll) :: fns_184
theorem g_268 : Good Try.prog ⟨tis, fns_268⟩ := g_184.cons m_spec_AgeAll
noncomputable def spec_l8Draw_l0 (i4 : Int) (b0 : List Int) (b1 : Int) (b2 : Int) (l3 : List Fent) : Option ((Int × List Int × Int × Int × List Fent) ⊕ (List Int × Int × Int × List Fent)) :=
  cond (decide (i4 > 0))
    ((spec_l1Below (b0, b1, b2) 6).bind fun t13 =>
    cond (t13.2 == 0)
      ((spec_l1Below t13.1 3).bind fun t31 =>
      (spec_l6Mac t31.1).bind fun t34 =>
      (spec_l1Below t34.1 4).bind fun t36 =>
      (spec_SetStatic l3 (w64 (1 + t31.2)) t34.2 t36.2).bind fun t37 =>
      some (.inl (w64 (i4 - 1), t36.1.1, t36.1.2.1, t36.1.2.2, t37.1)))
      (cond (t13.2 == 1)
        ((spec_AgeAll l3).bind fun t43 =>
        some (.inl (w64 (i4 - 1), t13.1.1, t13.1.2.1, t13.1.2.2, t43)))
        ((spec_l1Below t13.1 3).bind fun t16 =>
        (spec_l6Mac t16.1).bind fun t19 =>
        (spec_l1Below t19.1 3).bind fun t21 =>
        (spec_l1Below t21.1 4).bind fun t24 =>
        (spec_Learn l3 (w64 (1 + t16.2)) (w64 (t19.2 + t21.2)) t24.2).bind fun t25 =>
        some (.inl (w64 (i4 - 1), t24.1.1, t24.1.2.1, t24.1.2.2, t25)))))
    (some (.inr (b0, b1, b2, l3)))
noncomputable def spec_l8Draw (c0 : L1Cur) : Option (L1Cur × List Fent) :=
  (spec_l1Below c0 10).bind fun t7 =>
  (loop (fun z => spec_l8Draw_l0 z.1 z.2.1 z.2.2.1 z.2.2.2.1 z.2.2.2.2) (t7.2, t7.1.1, t7.1.2.1, t7.1.2.2, ([] : List Fent))).bind fun d =>
  some ((d.1, d.2.1, d.2.2.1), d.2.2.2)
noncomputable def F_spec_l8Draw : Fn := ⟨[.ptr cL1Cur false], [.val false (.one (.sl cFent)) true], fun a => spec_l8Draw a⟩
def a_spec_l8Draw : List (Nat × LoopAnn) := [(0, ⟨⟨[(3, false, [.own 1000000000]), (4, false, [.dat (.int .i64)])], [(1, .box [.dat (.sl (.one (.int .u8))), .dat (.int .i64), .dat (.int .i64)]), (1000000000, .root cFent true)]⟩,
    ⟨[(3, false, [.own 1000000300])], [(1, .box [.dat (.sl (.one (.int .u8))), .dat (.int .i64), .dat (.int .i64)]), (1000000300, .root cFent true)]⟩, none⟩)]
theorem e_spec_l8Draw : fnDen ⟨tis, fns_268⟩ a_spec_l8Draw Try.f246 (codeOf Try.f246) [.ptr cL1Cur false] [.val false (.one (.sl cFent)) true] = fun a => spec_l8Draw a := by kernel_rfl
theorem m_spec_l8Draw : Meets Try.prog 246 F_spec_l8Draw := by
  have h := meets_of (ann := a_spec_l8Draw) (ps := [.ptr cL1Cur false]) (rs := [.val false (.one (.sl cFent)) true]) g_268 mixed Try.func246 (by kernel_rfl) (by kernel_rfl : Try.f246.body = some (codeOf Try.f246))
  rw [e_spec_l8Draw] at h
  exact h
noncomputable def fns_246 : List (FuncId × Fn) := (246, F_spec_l8Draw) :: fns_268
theorem g_246 : Good Try.prog ⟨tis, fns_246⟩ := g_268.cons m_spec_l8Draw
noncomputable def spec_l8Any_l1 (i4 : Int) (b0 : List Int) (b1 : Int) (b2 : Int) (l3 : List Fent) : Option ((Int × List Int × Int × Int × List Fent) ⊕ (List Int × Int × Int × List Fent)) :=
  (spec_l1Below (b0, b1, b2) 3).bind fun t31 =>
  cond (decide (i4 < (w64 (11 + t31.2))))
    ((app l3 [(50, w64 (100 + i4), 1, 0, false)]).bind fun zs41 =>
    some (.inl (w64 (i4 + 1), t31.1.1, t31.1.2.1, t31.1.2.2, zs41)))
    (some (.inr (t31.1.1, t31.1.2.1, t31.1.2.2, l3)))
noncomputable def spec_l8Any (c0 : L1Cur) : Option (L1Cur × List Fent) :=
  (spec_l8Draw c0).bind fun t6 =>
  (spec_l1Below t6.1 12).bind fun t8 =>
  cond (t8.2 == 0)
    ((spec_l1Int t8.1 ([0, 1, 99, 100] : List Int)).bind fun t14 =>
    (spec_l1Int t14.1 ([0, 1, 9999] : List Int)).bind fun t17 =>
    (spec_l1Int t17.1 ([(-1), 7, 8] : List Int)).bind fun t20 =>
    (spec_l1Int t20.1 ([(-1), 4, 5] : List Int)).bind fun t23 =>
    (app t6.2 [(t14.2, t17.2, t20.2, t23.2, false)]).bind fun zs26 =>
    some (t23.1, zs26))
    (cond (t8.2 == 1)
      ((loop (fun z => spec_l8Any_l1 z.1 z.2.1 z.2.2.1 z.2.2.2.1 z.2.2.2.2) (0, t8.1.1, t8.1.2.1, t8.1.2.2, t6.2)).bind fun d =>
      some ((d.1, d.2.1, d.2.2.1), d.2.2.2))
      (some (t8.1, t6.2)))
noncomputable def F_spec_l8Any : Fn := ⟨[.ptr cL1Cur false], [.val false (.one (.sl cFent)) true], fun a => spec_l8Any a⟩
def a_spec_l8Any : List (Nat × LoopAnn) := [(1, ⟨⟨[(3, false, [.own 1000001000]), (4, false, [.dat (.int .i64)])], [(1, .box [.dat (.sl (.one (.int .u8))), .dat (.int .i64), .dat (.int .i64)]), (1000001000, .root cFent true)]⟩,
    ⟨[(3, false, [.own 1000001300])], [(1, .box [.dat (.sl (.one (.int .u8))), .dat (.int .i64), .dat (.int .i64)]), (1000001300, .root cFent true)]⟩, none⟩)]
theorem e_spec_l8Any : fnDen ⟨tis, fns_246⟩ a_spec_l8Any Try.f185 (codeOf Try.f185) [.ptr cL1Cur false] [.val false (.one (.sl cFent)) true] = fun a => spec_l8Any a := by kernel_rfl
theorem m_spec_l8Any : Meets Try.prog 185 F_spec_l8Any := by
  have h := meets_of (ann := a_spec_l8Any) (ps := [.ptr cL1Cur false]) (rs := [.val false (.one (.sl cFent)) true]) g_246 mixed Try.func185 (by kernel_rfl) (by kernel_rfl : Try.f185.body = some (codeOf Try.f185))
  rw [e_spec_l8Any] at h
  exact h
noncomputable def fns_185 : List (FuncId × Fn) := (185, F_spec_l8Any) :: fns_246
theorem g_185 : Good Try.prog ⟨tis, fns_185⟩ := g_246.cons m_spec_l8Any
noncomputable def spec_l9Any_l1 (i6 : Int) (b0 : List Vrow) (b1 : List Int) : Option ((Int × List Vrow × List Int) ⊕ (List Vrow × List Int)) :=
  cond (decide (i6 < 6))
    ((spec_l9Row (b0, b1) (w64 (10 + i6), 0, 0)).bind fun t54 =>
    some (.inl (w64 (i6 + 1), t54.1, t54.2)))
    (some (.inr (b0, b1)))
noncomputable def spec_l9Any (c0 : L1Cur) : Option (L1Cur × Vtab × Int) :=
  (spec_l1Below c0 4).bind fun t8 =>
  (spec_l9Draw t8.1 (w64 (1 + t8.2))).bind fun t12 =>
  (spec_l1Below t12.1 12).bind fun t14 =>
  cond (t14.2 == 0)
    ((spec_l1Int t14.1 ([0, 1, 9, 100] : List Int)).bind fun t21 =>
    (spec_l1Int t21.1 ([(-1), 0, 1, 64] : List Int)).bind fun t24 =>
    (spec_l1Below t24.1 3).bind fun t26 =>
    (app t12.2.1 [(t21.2, t24.2, t26.2)]).bind fun zs29 =>
    some (t26.1, (zs29, t12.2.2), w64 (1 + t8.2)))
    (cond (t14.2 == 1)
      ((spec_l1Int t14.1 ([0, 7] : List Int)).bind fun t37 =>
      (ix t12.2.2.length 0).bind fun j38 =>
      (t12.2.2[j38]?).bind fun x =>
      some (t37.1, (t12.2.1, t12.2.2.set j38 t37.2), w64 (1 + t8.2)))
      (cond (t14.2 == 2)
        ((spec_l1Int t14.1 ([0, 6, 7] : List Int)).bind fun t43 =>
        some (t43.1, t12.2, t43.2))
        (cond (t14.2 == 3)
          ((loop (fun z => spec_l9Any_l1 z.1 z.2.1 z.2.2) (0, t12.2.1, t12.2.2)).bind fun d =>
          some (t14.1, d, w64 (1 + t8.2)))
          (some (t14.1, t12.2, w64 (1 + t8.2))))))
noncomputable def F_spec_l9Any : Fn := ⟨[.ptr cL1Cur false], [.val true cVtab true, .val false (.one (.int .i64)) true], fun a => spec_l9Any a⟩
def a_spec_l9Any : List (Nat × LoopAnn) := [(1, ⟨⟨[(6, false, [.dat (.int .i64)])], [(528384, .box [.own 1000001000, .own 1000001001]), (1000001000, .root cVrow true), (1000001001, .root (.one (.int .i64)) true)]⟩,
    ⟨[], [(528384, .box [.own 1000001300, .own 1000001301]), (1000001300, .root cVrow true), (1000001301, .root (.one (.int .i64)) true)]⟩, none⟩)]
theorem e_spec_l9Any : fnDen ⟨tis, fns_185⟩ a_spec_l9Any Try.f186 (codeOf Try.f186) [.ptr cL1Cur false] [.val true cVtab true, .val false (.one (.int .i64)) true] = fun a => spec_l9Any a := by kernel_rfl
theorem m_spec_l9Any : Meets Try.prog 186 F_spec_l9Any := by
  have h := meets_of (ann := a_spec_l9Any) (ps := [.ptr cL1Cur false]) (rs := [.val true cVtab true, .val false (.one (.int .i64)) true]) g_185 mixed Try.func186 (by kernel_rfl) (by kernel_rfl : Try.f186.body = some (codeOf Try.f186))
  rw [e_spec_l9Any] at h
  exact h
noncomputable def fns_186 : List (FuncId × Fn) := (186, F_spec_l9Any) :: fns_185
theorem g_186 : Good Try.prog ⟨tis, fns_186⟩ := g_185.cons m_spec_l9Any
noncomputable def spec_l11Any (c0 : L1Cur) : Option (L1Cur × Bridge) :=
  (spec_l11Draw c0).bind fun t5 =>
  (spec_l1Below t5.1 16).bind fun t7 =>
  cond (t7.2 == 0)
    ((spec_l1Int t7.1 ([0, 99, 100] : List Int)).bind fun t12 =>
    some (t12.1, (t12.2, t5.2.2.1, t5.2.2.2.1, t5.2.2.2.2.1, t5.2.2.2.2.2.1, t5.2.2.2.2.2.2.1, t5.2.2.2.2.2.2.2.1, t5.2.2.2.2.2.2.2.2.1, t5.2.2.2.2.2.2.2.2.2.1, t5.2.2.2.2.2.2.2.2.2.2.1, t5.2.2.2.2.2.2.2.2.2.2.2)))
    (cond (t7.2 == 1)
      ((spec_l1Str t7.1 ([[116, 101, 110, 45, 98, 121, 116, 101, 115, 45], [101, 108, 101, 118, 101, 110, 45, 98, 121, 116, 101]] : List (List UInt8))).bind fun t18 =>
      some (t18.1, (t5.2.1, t18.2, t5.2.2.2.1, t5.2.2.2.2.1, t5.2.2.2.2.2.1, t5.2.2.2.2.2.2.1, t5.2.2.2.2.2.2.2.1, t5.2.2.2.2.2.2.2.2.1, t5.2.2.2.2.2.2.2.2.2.1, t5.2.2.2.2.2.2.2.2.2.2.1, t5.2.2.2.2.2.2.2.2.2.2.2)))
      (cond (t7.2 == 2)
        ((spec_l10Any t7.1).bind fun t23 =>
        some (t23.1, (t5.2.1, t5.2.2.1, t23.2, t5.2.2.2.2.1, t5.2.2.2.2.2.1, t5.2.2.2.2.2.2.1, t5.2.2.2.2.2.2.2.1, t5.2.2.2.2.2.2.2.2.1, t5.2.2.2.2.2.2.2.2.2.1, t5.2.2.2.2.2.2.2.2.2.2.1, t5.2.2.2.2.2.2.2.2.2.2.2)))
        (cond (t7.2 == 3)
          ((spec_l8Any t7.1).bind fun t28 =>
          some (t28.1, (t5.2.1, t5.2.2.1, t5.2.2.2.1, t28.2, t5.2.2.2.2.2.1, t5.2.2.2.2.2.2.1, t5.2.2.2.2.2.2.2.1, t5.2.2.2.2.2.2.2.2.1, t5.2.2.2.2.2.2.2.2.2.1, t5.2.2.2.2.2.2.2.2.2.2.1, t5.2.2.2.2.2.2.2.2.2.2.2)))
          (cond (t7.2 == 4)
            ((spec_l9Any t7.1).bind fun t34 =>
            some (t34.1, (t5.2.1, t5.2.2.1, t5.2.2.2.1, t5.2.2.2.2.1, t34.2.1.1, t34.2.1.2, t5.2.2.2.2.2.2.2.1, t5.2.2.2.2.2.2.2.2.1, t5.2.2.2.2.2.2.2.2.2.1, t5.2.2.2.2.2.2.2.2.2.2.1, t5.2.2.2.2.2.2.2.2.2.2.2)))
            (cond (t7.2 == 5)
              ((spec_l1Int t7.1 ([(-1), 1000000, 1000001] : List Int)).bind fun t42 =>
              some (t42.1, (t5.2.1, t5.2.2.1, t5.2.2.2.1, t5.2.2.2.2.1, t5.2.2.2.2.2.1, t5.2.2.2.2.2.2.1, t5.2.2.2.2.2.2.2.1, t5.2.2.2.2.2.2.2.2.1, t5.2.2.2.2.2.2.2.2.2.1, t42.2, t5.2.2.2.2.2.2.2.2.2.2.2)))
              (some (t7.1, t5.2)))))))
noncomputable def F_spec_l11Any : Fn := ⟨[.ptr cL1Cur false], [.val true cBridge true], fun a => spec_l11Any a⟩
def a_spec_l11Any : List (Nat × LoopAnn) := []
theorem e_spec_l11Any : fnDen ⟨tis, fns_186⟩ a_spec_l11Any Try.f104 (codeOf Try.f104) [.ptr cL1Cur false] [.val true cBridge true] = fun a => spec_l11Any a := by kernel_rfl
theorem m_spec_l11Any : Meets Try.prog 104 F_spec_l11Any := by
  have h := meets_of (ann := a_spec_l11Any) (ps := [.ptr cL1Cur false]) (rs := [.val true cBridge true]) g_186 mixed Try.func104 (by kernel_rfl) (by kernel_rfl : Try.f104.body = some (codeOf Try.f104))
  rw [e_spec_l11Any] at h
  exact h
noncomputable def fns_104 : List (FuncId × Fn) := (104, F_spec_l11Any) :: fns_186
theorem g_104 : Good Try.prog ⟨tis, fns_104⟩ := g_186.cons m_spec_l11Any
noncomputable def spec_DrawMibGet (code0 : List Int) : Option (Bridge × List Int) :=
  (spec_l1New code0).bind fun t7 =>
  (spec_l11Any t7).bind fun t9 =>
  (spec_l17Oid t9.1 t9.2).bind fun t13 =>
  some (t9.2, t13.2)
noncomputable def F_spec_DrawMibGet : Fn := ⟨[.val false (.one (.sl (.one (.int .u8)))) false], [.val true cBridge false, .val false (.one (.sl (.one (.int .i64)))) false], fun a => spec_DrawMibGet a⟩
def a_spec_DrawMibGet : List (Nat × LoopAnn) := []
theorem e_spec_DrawMibGet : fnDen ⟨tis, fns_104⟩ a_spec_DrawMibGet Try.f31 (codeOf Try.f31) [.val false (.one (.sl (.one (.int .u8)))) false] [.val true cBridge false, .val false (.one (.sl (.one (.int .i64)))) false] = fun a => spec_DrawMibGet a := by kernel_rfl
theorem m_spec_DrawMibGet : Meets Try.prog 31 F_spec_DrawMibGet := by
  have h := meets_of (ann := a_spec_DrawMibGet) (ps := [.val false (.one (.sl (.one (.int .u8)))) false]) (rs := [.val true cBridge false, .val false (.one (.sl (.one (.int .i64)))) false]) g_104 mixed Try.func31 (by kernel_rfl) (by kernel_rfl : Try.f31.body = some (codeOf Try.f31))
  rw [e_spec_DrawMibGet] at h
  exact h
noncomputable def fns_31 : List (FuncId × Fn) := (31, F_spec_DrawMibGet) :: fns_104
theorem g_31 : Good Try.prog ⟨tis, fns_31⟩ := g_104.cons m_spec_DrawMibGet
noncomputable def spec_DrawWalk (code0 : List Int) : Option (Bridge × (List Int) × Int) :=
  (spec_l1New code0).bind fun t8 =>
  (spec_l11Any t8).bind fun t10 =>
  (spec_l17Oid t10.1 t10.2).bind fun t14 =>
  (spec_l1Int t14.1 ([200, 3, 1, 0, (-1), 201] : List Int)).bind fun t17 =>
  some (t10.2, t14.2, t17.2)
noncomputable def F_spec_DrawWalk : Fn := ⟨[.val false (.one (.sl (.one (.int .u8)))) false], [.val true cBridge false, .val false (.one (.sl (.one (.int .i64)))) false, .val false (.one (.int .i64)) true], fun a => spec_DrawWalk a⟩
def a_spec_DrawWalk : List (Nat × LoopAnn) := []
theorem e_spec_DrawWalk : fnDen ⟨tis, fns_31⟩ a_spec_DrawWalk Try.f32 (codeOf Try.f32) [.val false (.one (.sl (.one (.int .u8)))) false] [.val true cBridge false, .val false (.one (.sl (.one (.int .i64)))) false, .val false (.one (.int .i64)) true] = fun a => spec_DrawWalk a := by kernel_rfl
theorem m_spec_DrawWalk : Meets Try.prog 32 F_spec_DrawWalk := by
  have h := meets_of (ann := a_spec_DrawWalk) (ps := [.val false (.one (.sl (.one (.int .u8)))) false]) (rs := [.val true cBridge false, .val false (.one (.sl (.one (.int .i64)))) false, .val false (.one (.int .i64)) true]) g_31 mixed Try.func32 (by kernel_rfl) (by kernel_rfl : Try.f32.body = some (codeOf Try.f32))
  rw [e_spec_DrawWalk] at h
  exact h
noncomputable def fns_32 : List (FuncId × Fn) := (32, F_spec_DrawWalk) :: fns_31
theorem g_32 : Good Try.prog ⟨tis, fns_32⟩ := g_31.cons m_spec_DrawWalk
noncomputable def spec_DrawCountBelow (code0 : List Int) : Option (Bridge × List Int) :=
  (spec_l1New code0).bind fun t7 =>
  (spec_l11Any t7).bind fun t9 =>
  (spec_l1Once t9.1 3).bind fun t11 =>
  cond t11.2
    ((spec_l17Oid t11.1 t9.2).bind fun t15 =>
    some (t9.2, t15.2))
    ((spec_l1Below t11.1 6).bind fun t18 =>
    (spec_l17Name [t18.2]).bind fun t20 =>
    some (t9.2, t20))
noncomputable def F_spec_DrawCountBelow : Fn := ⟨[.val false (.one (.sl (.one (.int .u8)))) false], [.val true cBridge false, .val false (.one (.sl (.one (.int .i64)))) false], fun a => spec_DrawCountBelow a⟩
def a_spec_DrawCountBelow : List (Nat × LoopAnn) := []
theorem e_spec_DrawCountBelow : fnDen ⟨tis, fns_32⟩ a_spec_DrawCountBelow Try.f33 (codeOf Try.f33) [.val false (.one (.sl (.one (.int .u8)))) false] [.val true cBridge false, .val false (.one (.sl (.one (.int .i64)))) false] = fun a => spec_DrawCountBelow a := by kernel_rfl
theorem m_spec_DrawCountBelow : Meets Try.prog 33 F_spec_DrawCountBelow := by
  have h := meets_of (ann := a_spec_DrawCountBelow) (ps := [.val false (.one (.sl (.one (.int .u8)))) false]) (rs := [.val true cBridge false, .val false (.one (.sl (.one (.int .i64)))) false]) g_32 mixed Try.func33 (by kernel_rfl) (by kernel_rfl : Try.f33.body = some (codeOf Try.f33))
  rw [e_spec_DrawCountBelow] at h
  exact h
noncomputable def fns_33 : List (FuncId × Fn) := (33, F_spec_DrawCountBelow) :: fns_32
theorem g_33 : Good Try.prog ⟨tis, fns_33⟩ := g_32.cons m_spec_DrawCountBelow
noncomputable def impl_LessOid_l0 (a0 : List Int) (b1 : List Int) (i5 : Int) : Option (Int ⊕ (Unit ⊕ Bool)) :=
  (cond (decide (i5 < (a0.length : Int))) (some (decide (i5 < (b1.length : Int)))) (some false)).bind fun t15 =>
  cond t15
    ((at? a0 i5).bind fun x20 =>
    (at? b1 i5).bind fun x24 =>
    cond (x20 != x24)
      ((at? a0 i5).bind fun x29 =>
      (at? b1 i5).bind fun x33 =>
      some (.inr (.inr (decide (x29 < x33)))))
      (some (.inl (w64 (i5 + 1)))))
    (some (.inr (.inl ())))
noncomputable def impl_LessOid (a0 : List Int) (b1 : List Int) : Option Bool :=
  (loop (fun z => impl_LessOid_l0 a0 b1 z) 0).bind (Sum.elim (fun d =>
    let t4 := decide ((a0.length : Int) < (b1.length : Int))
    some t4) (fun r => some r))
noncomputable def F_impl_LessOid : Fn := ⟨[.val false (.one (.sl (.one (.int .i64)))) false, .val false (.one (.sl (.one (.int .i64)))) false], [.val false (.one .bool) true], fun a => impl_LessOid a.1 a.2⟩
def a_impl_LessOid : List (Nat × LoopAnn) := [(0, ⟨⟨[(5, false, [.dat (.int .i64)]), (11, false, [.undef]), (12, false, [.undef]), (13, false, [.undef]), (14, false, [.undef])], []⟩,
    ⟨[], []⟩, some ⟨[(4, false, [.dat .bool])], []⟩⟩)]
theorem e_impl_LessOid : fnDen ⟨tis, fns_33⟩ a_impl_LessOid Try.f109 (codeOf Try.f109) [.val false (.one (.sl (.one (.int .i64)))) false, .val false (.one (.sl (.one (.int .i64)))) false] [.val false (.one .bool) true] = fun a => impl_LessOid a.1 a.2 := by kernel_rfl
theorem m_impl_LessOid : Meets Try.prog 109 F_impl_LessOid := by
  have h := meets_of (ann := a_impl_LessOid) (ps := [.val false (.one (.sl (.one (.int .i64)))) false, .val false (.one (.sl (.one (.int .i64)))) false]) (rs := [.val false (.one .bool) true]) g_33 mixed Try.func109 (by kernel_rfl) (by kernel_rfl : Try.f109.body = some (codeOf Try.f109))
  rw [e_impl_LessOid] at h
  exact h
noncomputable def fns_109 : List (FuncId × Fn) := (109, F_impl_LessOid) :: fns_33
theorem g_109 : Good Try.prog ⟨tis, fns_109⟩ := g_33.cons m_impl_LessOid
noncomputable def impl_copyInts (l0 : List Int) : Option (List Int) :=
  (app [] l0).bind fun zs4 =>
  some zs4
noncomputable def F_impl_copyInts : Fn := ⟨[.val false (.one (.sl (.one (.int .i64)))) false], [.val false (.one (.sl (.one (.int .i64)))) true], fun a => impl_copyInts a⟩
def a_impl_copyInts : List (Nat × LoopAnn) := []
theorem e_impl_copyInts : fnDen ⟨tis, fns_109⟩ a_impl_copyInts Try.f110 (codeOf Try.f110) [.val false (.one (.sl (.one (.int .i64)))) false] [.val false (.one (.sl (.one (.int .i64)))) true] = fun a => impl_copyInts a := by kernel_rfl
theorem m_impl_copyInts : Meets Try.prog 110 F_impl_copyInts := by
  have h := meets_of (ann := a_impl_copyInts) (ps := [.val false (.one (.sl (.one (.int .i64)))) false]) (rs := [.val false (.one (.sl (.one (.int .i64)))) true]) g_109 mixed Try.func110 (by kernel_rfl) (by kernel_rfl : Try.f110.body = some (codeOf Try.f110))
  rw [e_impl_copyInts] at h
  exact h
noncomputable def fns_110 : List (FuncId × Fn) := (110, F_impl_copyInts) :: fns_109
theorem g_110 : Good Try.prog ⟨tis, fns_110⟩ := g_109.cons m_impl_copyInts
noncomputable def impl_MibNext_l0 (o1 : List Int) (t8 : List Bind) (t10 : Int) (b1 : Int) (b2 : Int) (b3 : List UInt8) (b0_1 : List Int) (b4 : List Int) : Option ((Int × Int × Int × List UInt8 × List Int × List Int) ⊕ ((Int × Int × List UInt8 × List Int × List Int) ⊕ (List Int × Int × Int × List UInt8 × List Int))) :=
  cond (decide (t10 < (t8.length : Int)))
    ((at? t8 t10).bind fun x12 =>
    (impl_LessOid o1 x12.1).bind fun t17 =>
    cond t17
      (some (.inr (.inr x12)))
      (some (.inl (w64 (t10 + 1), b1, b2, b3, b0_1, b4))))
    (some (.inr (.inl (b1, b2, b3, b0_1, b4))))
noncomputable def impl_MibNext (b0 : Bridge) (o1 : List Int) : Option Bind :=
  (impl_MibList b0).bind fun t8 =>
  (loop (fun z => impl_MibNext_l0 o1 t8 z.1 z.2.1 z.2.2.1 z.2.2.2.1 z.2.2.2.2.1 z.2.2.2.2.2) (0, 0, 0, [], [], [])).bind (Sum.elim (fun d =>
    (impl_copyInts o1).bind fun t21 =>
    some (t21, 130, 0, [], [])) (fun r => some r))
noncomputable def F_impl_MibNext : Fn := ⟨[.val true cBridge false, .val false (.one (.sl (.one (.int .i64)))) false], [.val true cBind false], fun a => impl_MibNext a.1 a.2⟩
def a_impl_MibNext : List (Nat × LoopAnn) := [(0, ⟨⟨[(10, false, [.dat (.int .i64)])], [(2048, .box [.own 1000000000, .dat (.int .i64), .dat (.int .i64), .dat .str, .own 1000000001]), (1000000000, .root (.one (.int .i64)) true), (1000000001, .root (.one (.int .i64)) true)]⟩,
    ⟨[], [(2048, .box [.own 1000000300, .dat (.int .i64), .dat (.int .i64), .dat .str, .own 1000000301]), (1000000300, .root (.one (.int .i64)) true), (1000000301, .root (.one (.int .i64)) true)]⟩, some ⟨[], [(2048, .box [.dat (.sl (.one (.int .i64))), .dat (.int .i64), .dat (.int .i64), .dat .str, .dat (.sl (.one (.int .i64)))])]⟩⟩)]
theorem e_impl_MibNext : fnDen ⟨tis, fns_110⟩ a_impl_MibNext Try.f34 (codeOf Try.f34) [.val true cBridge false, .val false (.one (.sl (.one (.int .i64)))) false] [.val true cBind false] = fun a => impl_MibNext a.1 a.2 := by kernel_rfl
theorem m_impl_MibNext : Meets Try.prog 34 F_impl_MibNext := by
  have h := meets_of (ann := a_impl_MibNext) (ps := [.val true cBridge false, .val false (.one (.sl (.one (.int .i64)))) false]) (rs := [.val true cBind false]) g_110 mixed Try.func34 (by kernel_rfl) (by kernel_rfl : Try.f34.body = some (codeOf Try.f34))
  rw [e_impl_MibNext] at h
  exact h
noncomputable def fns_34 : List (FuncId × Fn) := (34, F_impl_MibNext) :: fns_110
theorem g_34 : Good Try.prog ⟨tis, fns_34⟩ := g_110.cons m_impl_MibNext
noncomputable def spec_LessOid_l0 (a0 : List Int) (b1 : List Int) (i5 : Int) : Option (Int ⊕ (Unit ⊕ Bool)) :=
  (cond (decide (i5 < (a0.length : Int))) (some (decide (i5 < (b1.length : Int)))) (some false)).bind fun t15 =>
  cond t15
    ((at? a0 i5).bind fun x20 =>
    (at? b1 i5).bind fun x24 =>
    cond (x20 != x24)
      ((at? a0 i5).bind fun x29 =>
      (at? b1 i5).bind fun x33 =>
      some (.inr (.inr (decide (x29 < x33)))))
      (some (.inl (w64 (i5 + 1)))))
    (some (.inr (.inl ())))
noncomputable def spec_LessOid (a0 : List Int) (b1 : List Int) : Option Bool :=
  (loop (fun z => spec_LessOid_l0 a0 b1 z) 0).bind (Sum.elim (fun d =>
    let t4 := decide ((a0.length : Int) < (b1.length : Int))
    some t4) (fun r => some r))
noncomputable def F_spec_LessOid : Fn := ⟨[.val false (.one (.sl (.one (.int .i64)))) false, .val false (.one (.sl (.one (.int .i64)))) false], [.val false (.one .bool) true], fun a => spec_LessOid a.1 a.2⟩
def a_spec_LessOid : List (Nat × LoopAnn) := [(0, ⟨⟨[(5, false, [.dat (.int .i64)]), (11, false, [.undef]), (12, false, [.undef]), (13, false, [.undef]), (14, false, [.undef])], []⟩,
    ⟨[], []⟩, some ⟨[(4, false, [.dat .bool])], []⟩⟩)]
theorem e_spec_LessOid : fnDen ⟨tis, fns_34⟩ a_spec_LessOid Try.f111 (codeOf Try.f111) [.val false (.one (.sl (.one (.int .i64)))) false, .val false (.one (.sl (.one (.int .i64)))) false] [.val false (.one .bool) true] = fun a => spec_LessOid a.1 a.2 := by kernel_rfl
theorem m_spec_LessOid : Meets Try.prog 111 F_spec_LessOid := by
  have h := meets_of (ann := a_spec_LessOid) (ps := [.val false (.one (.sl (.one (.int .i64)))) false, .val false (.one (.sl (.one (.int .i64)))) false]) (rs := [.val false (.one .bool) true]) g_34 mixed Try.func111 (by kernel_rfl) (by kernel_rfl : Try.f111.body = some (codeOf Try.f111))
  rw [e_spec_LessOid] at h
  exact h
noncomputable def fns_111 : List (FuncId × Fn) := (111, F_spec_LessOid) :: fns_34
theorem g_111 : Good Try.prog ⟨tis, fns_111⟩ := g_34.cons m_spec_LessOid
noncomputable def spec_MibNext_l0 (o1 : List Int) (t8 : List Bind) (i6 : Int) (b1 : Int) (b2 : Int) (b3 : List UInt8) (b0_1 : List Int) (b4 : List Int) : Option ((Int × Int × Int × List UInt8 × List Int × List Int) ⊕ ((Int × Int × List UInt8 × List Int × List Int) ⊕ (List Int × Int × Int × List UInt8 × List Int))) :=
  cond (decide (i6 < (t8.length : Int)))
    ((ix t8.length i6).bind fun j18 =>
    (t8[j18]?).bind fun x20 =>
    (spec_LessOid o1 x20.1).bind fun t21 =>
    cond t21
      ((ix t8.length i6).bind fun j24 =>
      (t8[j24]?).bind fun x25 =>
      some (.inr (.inr x25)))
      (some (.inl (w64 (i6 + 1), b1, b2, b3, b0_1, b4))))
    (some (.inr (.inl (b1, b2, b3, b0_1, b4))))
noncomputable def spec_MibNext (b0 : Bridge) (o1 : List Int) : Option Bind :=
  (spec_MibList b0).bind fun t8 =>
  (loop (fun z => spec_MibNext_l0 o1 t8 z.1 z.2.1 z.2.2.1 z.2.2.2.1 z.2.2.2.2.1 z.2.2.2.2.2) (0, 0, 0, [], [], [])).bind (Sum.elim (fun d =>
    (app ([] : List Int) o1).bind fun zs28 =>
    some (zs28, 130, 0, [], [])) (fun r => some r))
noncomputable def F_spec_MibNext : Fn := ⟨[.val true cBridge false, .val false (.one (.sl (.one (.int .i64)))) false], [.val true cBind false], fun a => spec_MibNext a.1 a.2⟩
def a_spec_MibNext : List (Nat × LoopAnn) := [(0, ⟨⟨[(6, false, [.dat (.int .i64)])], [(2048, .box [.own 1000000000, .dat (.int .i64), .dat (.int .i64), .dat .str, .own 1000000001]), (1000000000, .root (.one (.int .i64)) true), (1000000001, .root (.one (.int .i64)) true)]⟩,
    ⟨[], [(2048, .box [.own 1000000300, .dat (.int .i64), .dat (.int .i64), .dat .str, .own 1000000301]), (1000000300, .root (.one (.int .i64)) true), (1000000301, .root (.one (.int .i64)) true)]⟩, some ⟨[], [(2048, .box [.dat (.sl (.one (.int .i64))), .dat (.int .i64), .dat (.int .i64), .dat .str, .dat (.sl (.one (.int .i64)))])]⟩⟩)]
theorem e_spec_MibNext : fnDen ⟨tis, fns_111⟩ a_spec_MibNext Try.f35 (codeOf Try.f35) [.val true cBridge false, .val false (.one (.sl (.one (.int .i64)))) false] [.val true cBind false] = fun a => spec_MibNext a.1 a.2 := by kernel_rfl
theorem m_spec_MibNext : Meets Try.prog 35 F_spec_MibNext := by
  have h := meets_of (ann := a_spec_MibNext) (ps := [.val true cBridge false, .val false (.one (.sl (.one (.int .i64)))) false]) (rs := [.val true cBind false]) g_111 mixed Try.func35 (by kernel_rfl) (by kernel_rfl : Try.f35.body = some (codeOf Try.f35))
  rw [e_spec_MibNext] at h
  exact h
noncomputable def fns_35 : List (FuncId × Fn) := (35, F_spec_MibNext) :: fns_111
theorem g_35 : Good Try.prog ⟨tis, fns_35⟩ := g_111.cons m_spec_MibNext
noncomputable def impl_SameVal (a0 : Val) (b1 : Val) : Option Bool :=
  (cond (a0.1 == b1.1) (some (a0.2.1 == b1.2.1)) (some false)).bind fun t16 =>
  (cond t16 (some (a0.2.2.1 == b1.2.2.1)) (some false)).bind fun t23 =>
  (cond t23
    ((impl_SameOid a0.2.2.2 b1.2.2.2).bind fun t29 =>
    some t29)
    (some false)).bind fun t30 =>
  some t30
noncomputable def F_impl_SameVal : Fn := ⟨[.val true cVal false, .val true cVal false], [.val false (.one .bool) true], fun a => impl_SameVal a.1 a.2⟩
def a_impl_SameVal : List (Nat × LoopAnn) := []
theorem e_impl_SameVal : fnDen ⟨tis, fns_35⟩ a_impl_SameVal Try.f36 (codeOf Try.f36) [.val true cVal false, .val true cVal false] [.val false (.one .bool) true] = fun a => impl_SameVal a.1 a.2 := by kernel_rfl
theorem m_impl_SameVal : Meets Try.prog 36 F_impl_SameVal := by
  have h := meets_of (ann := a_impl_SameVal) (ps := [.val true cVal false, .val true cVal false]) (rs := [.val false (.one .bool) true]) g_35 mixed Try.func36 (by kernel_rfl) (by kernel_rfl : Try.f36.body = some (codeOf Try.f36))
  rw [e_impl_SameVal] at h
  exact h
noncomputable def fns_36 : List (FuncId × Fn) := (36, F_impl_SameVal) :: fns_35
theorem g_36 : Good Try.prog ⟨tis, fns_36⟩ := g_35.cons m_impl_SameVal
noncomputable def spec_MibGet_l0 (o1 : List Int) (t8 : List Bind) (i6 : Int) (b0_1 : Int) (b1 : Int) (b2 : List UInt8) (b3 : List Int) : Option ((Int × Int × Int × List UInt8 × List Int) ⊕ ((Int × Int × List UInt8 × List Int) ⊕ (Int × Int × List UInt8 × List Int))) :=
  cond (decide (i6 < (t8.length : Int)))
    ((ix t8.length i6).bind fun j17 =>
    (t8[j17]?).bind fun x19 =>
    (spec_SameOid x19.1 o1).bind fun t21 =>
    cond t21
      ((ix t8.length i6).bind fun j24 =>
      (t8[j24]?).bind fun x26 =>
      some (.inr (.inr x26.2)))
      (some (.inl (w64 (i6 + 1), b0_1, b1, b2, b3))))
    (some (.inr (.inl (b0_1, b1, b2, b3))))
noncomputable def spec_MibGet (b0 : Bridge) (o1 : List Int) : Option Val :=
  (spec_MibList b0).bind fun t8 =>
  (loop (fun z => spec_MibGet_l0 o1 t8 z.1 z.2.1 z.2.2.1 z.2.2.2.1 z.2.2.2.2) (0, 0, 0, [], [])).bind (Sum.elim (fun d =>
    some (128, 0, [], [])) (fun r => some r))
noncomputable def F_spec_MibGet : Fn := ⟨[.val true cBridge false, .val false (.one (.sl (.one (.int .i64)))) false], [.val true cVal false], fun a => spec_MibGet a.1 a.2⟩
def a_spec_MibGet : List (Nat × LoopAnn) := [(0, ⟨⟨[(6, false, [.dat (.int .i64)])], [(2048, .box [.dat (.int .i64), .dat (.int .i64), .dat .str, .own 1000000000]), (1000000000, .root (.one (.int .i64)) true)]⟩,
    ⟨[], [(2048, .box [.dat (.int .i64), .dat (.int .i64), .dat .str, .own 1000000300]), (1000000300, .root (.one (.int .i64)) true)]⟩, some ⟨[], [(2048, .box [.dat (.int .i64), .dat (.int .i64), .dat .str, .dat (.sl (.one (.int .i64)))])]⟩⟩)]
theorem e_spec_MibGet : fnDen ⟨tis, fns_36⟩ a_spec_MibGet Try.f37 (codeOf Try.f37) [.val true cBridge false, .val false (.one (.sl (.one (.int .i64)))) false] [.val true cVal false] = fun a => spec_MibGet a.1 a.2 := by kernel_rfl
theorem m_spec_MibGet : Meets Try.prog 37 F_spec_MibGet := by
  have h := meets_of (ann := a_spec_MibGet) (ps := [.val true cBridge false, .val false (.one (.sl (.one (.int .i64)))) false]) (rs := [.val true cVal false]) g_36 mixed Try.func37 (by kernel_rfl) (by kernel_rfl : Try.f37.body = some (codeOf Try.f37))
  rw [e_spec_MibGet] at h
  exact h
noncomputable def fns_37 : List (FuncId × Fn) := (37, F_spec_MibGet) :: fns_36
theorem g_37 : Good Try.prog ⟨tis, fns_37⟩ := g_36.cons m_spec_MibGet
noncomputable def impl_SameBinds_l0 (a0 : List Bind) (b1 : List Bind) (t13 : Int) : Option (Int ⊕ (Unit ⊕ Bool)) :=
  cond (decide (t13 < (a0.length : Int)))
    ((at? a0 t13).bind fun x18 =>
    (at? b1 t13).bind fun x23 =>
    (impl_SameOid x18.1 x23.1).bind fun t26 =>
    (cond (!t26)
      (some true)
      ((at? a0 t13).bind fun x31 =>
      (at? b1 t13).bind fun x36 =>
      (impl_SameVal x31.2 x36.2).bind fun t39 =>
      some (!t39))).bind fun t41 =>
    cond t41 (some (.inr (.inr false))) (some (.inl (w64 (t13 + 1)))))
    (some (.inr (.inl ())))
noncomputable def impl_SameBinds (a0 : List Bind) (b1 : List Bind) : Option Bool :=
  cond ((a0.length : Int) != (b1.length : Int))
    (some false)
    ((loop (fun z => impl_SameBinds_l0 a0 b1 z) 0).bind (Sum.elim (fun d =>
      some true) (fun r => some r)))
noncomputable def F_impl_SameBinds : Fn := ⟨[.val false (.one (.sl cBind)) false, .val false (.one (.sl cBind)) false], [.val false (.one .bool) true], fun a => impl_SameBinds a.1 a.2⟩
def a_impl_SameBinds : List (Nat × LoopAnn) := [(0, ⟨⟨[(13, false, [.dat (.int .i64)]), (29, false, [.undef]), (30, false, [.undef]), (31, false, [.undef]), (32, false, [.undef]), (33, false, [.undef]), (34, false, [.undef]), (35, false, [.undef]), (36, false, [.undef]), (37, false, [.undef]), (38, false, [.undef]), (39, false, [.undef]), (40, false, [.undef])], []⟩,
    ⟨[], []⟩, some ⟨[(4, false, [.dat .bool])], []⟩⟩)]
theorem e_impl_SameBinds : fnDen ⟨tis, fns_37⟩ a_impl_SameBinds Try.f39 (codeOf Try.f39) [.val false (.one (.sl cBind)) false, .val false (.one (.sl cBind)) false] [.val false (.one .bool) true] = fun a => impl_SameBinds a.1 a.2 := by kernel_rfl
theorem m_impl_SameBinds : Meets Try.prog 39 F_impl_SameBinds := by
  have h := meets_of (ann := a_impl_SameBinds) (ps := [.val false (.one (.sl cBind)) false, .val false (.one (.sl cBind)) false]) (rs := [.val false (.one .bool) true]) g_37 mixed Try.func39 (by kernel_rfl) (by kernel_rfl : Try.f39.body = some (codeOf Try.f39))
  rw [e_impl_SameBinds] at h
  exact h
noncomputable def fns_39 : List (FuncId × Fn) := (39, F_impl_SameBinds) :: fns_37
theorem g_39 : Good Try.prog ⟨tis, fns_39⟩ := g_37.cons m_impl_SameBinds
noncomputable def impl_Walk_l0 (b0 : Bridge) (n2 : Int) (o8 : List Int) (out7 : List Bind) : Option ((List Int × List Bind) ⊕ (List Bind)) :=
  (impl_in n2 0 200).bind fun t12 =>
  (cond t12 (some (decide ((out7.length : Int) < n2))) (some false)).bind fun t18 =>
  cond t18
    ((impl_MibNext b0 o8).bind fun t21 =>
    cond (t21.2.1 == 130)
      (some (.inr out7))
      ((app out7 [t21]).bind fun zs29 =>
      some (.inl (t21.1, zs29))))
    (some (.inr out7))
noncomputable def impl_Walk (b0 : Bridge) (from1 : List Int) (n2 : Int) : Option (List Bind) :=
  (loop (fun z => impl_Walk_l0 b0 n2 z.1 z.2) (from1, [])).bind fun d =>
  some d
noncomputable def F_impl_Walk : Fn := ⟨[.val true cBridge false, .val false (.one (.sl (.one (.int .i64)))) false, .val false (.one (.int .i64)) false], [.val false (.one (.sl cBind)) false], fun a => impl_Walk a.1 a.2.1 a.2.2⟩
def a_impl_Walk : List (Nat × LoopAnn) := [(0, ⟨⟨[(7, false, [.own 1000000000]), (8, false, [.dat (.sl (.one (.int .i64)))]), (14, false, [.undef]), (15, false, [.undef]), (16, false, [.undef]), (17, false, [.undef])], [(1000000000, .root cBind false)]⟩,
    ⟨[(7, false, [.own 1000000300])], [(1000000300, .root cBind false)]⟩, none⟩)]
theorem e_impl_Walk : fnDen ⟨tis, fns_39⟩ a_impl_Walk Try.f40 (codeOf Try.f40) [.val true cBridge false, .val false (.one (.sl (.one (.int .i64)))) false, .val false (.one (.int .i64)) false] [.val false (.one (.sl cBind)) false] = fun a => impl_Walk a.1 a.2.1 a.2.2 := by kernel_rfl
theorem m_impl_Walk : Meets Try.prog 40 F_impl_Walk := by
  have h := meets_of (ann := a_impl_Walk) (ps := [.val true cBridge false, .val false (.one (.sl (.one (.int .i64)))) false, .val false (.one (.int .i64)) false]) (rs := [.val false (.one (.sl cBind)) false]) g_39 mixed Try.func40 (by kernel_rfl) (by kernel_rfl : Try.f40.body = some (codeOf Try.f40))
  rw [e_impl_Walk] at h
  exact h
noncomputable def fns_40 : List (FuncId × Fn) := (40, F_impl_Walk) :: fns_39
theorem g_40 : Good Try.prog ⟨tis, fns_40⟩ := g_39.cons m_impl_Walk
noncomputable def spec_Walk_l0 (b0 : Bridge) (n2 : Int) (at8 : List Int) (out7 : List Bind) : Option ((List Int × List Bind) ⊕ ((List Bind) ⊕ (List Bind))) :=
  cond (decide ((out7.length : Int) < n2))
    ((spec_MibNext b0 at8).bind fun t22 =>
    cond (t22.2.1 == 130)
      (some (.inr (.inr out7)))
      ((app out7 [t22]).bind fun zs31 =>
      some (.inl (t22.1, zs31))))
    (some (.inr (.inl out7)))
noncomputable def spec_Walk (b0 : Bridge) (from1 : List Int) (n2 : Int) : Option (List Bind) :=
  (spec_l1In n2 0 200).bind fun t12 =>
  cond (!t12)
    (some ([] : List Bind))
    ((loop (fun z => spec_Walk_l0 b0 n2 z.1 z.2) (from1, ([] : List Bind))).bind (Sum.elim (fun d =>
      some d) (fun r => some r)))
noncomputable def F_spec_Walk : Fn := ⟨[.val true cBridge false, .val false (.one (.sl (.one (.int .i64)))) false, .val false (.one (.int .i64)) false], [.val false (.one (.sl cBind)) false], fun a => spec_Walk a.1 a.2.1 a.2.2⟩
def a_spec_Walk : List (Nat × LoopAnn) := [(0, ⟨⟨[(7, false, [.own 1000000000]), (8, false, [.dat (.sl (.one (.int .i64)))])], [(1000000000, .root cBind false)]⟩,
    ⟨[(7, false, [.own 1000000300])], [(1000000300, .root cBind false)]⟩, some ⟨[(6, false, [.own 1000000600])], [(1000000600, .root cBind false)]⟩⟩)]
theorem e_spec_Walk : fnDen ⟨tis, fns_40⟩ a_spec_Walk Try.f41 (codeOf Try.f41) [.val true cBridge false, .val false (.one (.sl (.one (.int .i64)))) false, .val false (.one (.int .i64)) false] [.val false (.one (.sl cBind)) false] = fun a => spec_Walk a.1 a.2.1 a.2.2 := by kernel_rfl
theorem m_spec_Walk : Meets Try.prog 41 F_spec_Walk := by
  have h := meets_of (ann := a_spec_Walk) (ps := [.val true cBridge false, .val false (.one (.sl (.one (.int .i64)))) false, .val false (.one (.int .i64)) false]) (rs := [.val false (.one (.sl cBind)) false]) g_40 mixed Try.func41 (by kernel_rfl) (by kernel_rfl : Try.f41.body = some (codeOf Try.f41))
  rw [e_spec_Walk] at h
  exact h
noncomputable def fns_41 : List (FuncId × Fn) := (41, F_spec_Walk) :: fns_40
theorem g_41 : Good Try.prog ⟨tis, fns_41⟩ := g_40.cons m_spec_Walk
noncomputable def impl_Places (b0 : Bridge) : Option Int :=
  (impl_MibList b0).bind fun t4 =>
  some (t4.length : Int)
noncomputable def F_impl_Places : Fn := ⟨[.val true cBridge false], [.val false (.one (.int .i64)) true], fun a => impl_Places a⟩
def a_impl_Places : List (Nat × LoopAnn) := []
theorem e_impl_Places : fnDen ⟨tis, fns_41⟩ a_impl_Places Try.f42 (codeOf Try.f42) [.val true cBridge false] [.val false (.one (.int .i64)) true] = fun a => impl_Places a := by kernel_rfl
theorem m_impl_Places : Meets Try.prog 42 F_impl_Places := by
  have h := meets_of (ann := a_impl_Places) (ps := [.val true cBridge false]) (rs := [.val false (.one (.int .i64)) true]) g_41 mixed Try.func42 (by kernel_rfl) (by kernel_rfl : Try.f42.body = some (codeOf Try.f42))
  rw [e_impl_Places] at h
  exact h
noncomputable def fns_42 : List (FuncId × Fn) := (42, F_impl_Places) :: fns_41
theorem g_42 : Good Try.prog ⟨tis, fns_42⟩ := g_41.cons m_impl_Places
noncomputable def spec_Places (b0 : Bridge) : Option Int :=
  (spec_MibList b0).bind fun t4 =>
  some (t4.length : Int)
noncomputable def F_spec_Places : Fn := ⟨[.val true cBridge false], [.val false (.one (.int .i64)) true], fun a => spec_Places a⟩
def a_spec_Places : List (Nat × LoopAnn) := []
theorem e_spec_Places : fnDen ⟨tis, fns_42⟩ a_spec_Places Try.f43 (codeOf Try.f43) [.val true cBridge false] [.val false (.one (.int .i64)) true] = fun a => spec_Places a := by kernel_rfl
theorem m_spec_Places : Meets Try.prog 43 F_spec_Places := by
  have h := meets_of (ann := a_spec_Places) (ps := [.val true cBridge false]) (rs := [.val false (.one (.int .i64)) true]) g_42 mixed Try.func43 (by kernel_rfl) (by kernel_rfl : Try.f43.body = some (codeOf Try.f43))
  rw [e_spec_Places] at h
  exact h
noncomputable def fns_43 : List (FuncId × Fn) := (43, F_spec_Places) :: fns_42
theorem g_43 : Good Try.prog ⟨tis, fns_43⟩ := g_42.cons m_spec_Places
noncomputable def laws_FnMibsBent (p0 : List Int) : Option Bool :=
  (laws_big p0).bind fun t13 =>
  cond t13
    (some true)
    ((spec_DrawMibGet p0).bind fun t16 =>
    (spec_DrawWalk p0).bind fun t21 =>
    (spec_DrawCountBelow p0).bind fun t27 =>
    (impl_MibNext t16.1 t16.2).bind fun t32 =>
    (spec_MibNext t16.1 t16.2).bind fun t35 =>
    (impl_MibGet t16.1 t16.2).bind fun t38 =>
    (spec_MibGet t16.1 t16.2).bind fun t41 =>
    (impl_SameVal t38 t41).bind fun t42 =>
    (cond t42
      ((impl_SameOid t32.1 t35.1).bind fun t48 =>
      some t48)
      (some false)).bind fun t49 =>
    (cond t49
      ((impl_SameVal t32.2 t35.2).bind fun t55 =>
      some t55)
      (some false)).bind fun t56 =>
    (cond t56
      ((impl_Walk t21.1 t21.2.1 t21.2.2).bind fun t61 =>
      (spec_Walk t21.1 t21.2.1 t21.2.2).bind fun t65 =>
      (impl_SameBinds t61 t65).bind fun t66 =>
      some t66)
      (some false)).bind fun t67 =>
    (cond t67
      ((impl_CountBelow t27.1 t27.2).bind fun t71 =>
      (spec_CountBelow t27.1 t27.2).bind fun t74 =>
      some (t71 == t74))
      (some false)).bind fun t76 =>
    (cond t76
      ((impl_Places t27.1).bind fun t79 =>
      (spec_Places t27.1).bind fun t81 =>
      some (t79 == t81))
      (some false)).bind fun t83 =>
    some t83)
noncomputable def F_laws_FnMibsBent : Fn := ⟨[.val false (.one (.sl (.one (.int .u8)))) false], [.val false (.one .bool) true], fun a => laws_FnMibsBent a⟩
def a_laws_FnMibsBent : List (Nat × LoopAnn) := []
theorem e_laws_FnMibsBent : fnDen ⟨tis, fns_43⟩ a_laws_FnMibsBent Try.f7 (codeOf Try.f7) [.val false (.one (.sl (.one (.int .u8)))) false] [.val false (.one .bool) true] = fun a => laws_FnMibsBent a := by kernel_rfl
theorem m_laws_FnMibsBent : Meets Try.prog 7 F_laws_FnMibsBent := by
  have h := meets_of (ann := a_laws_FnMibsBent) (ps := [.val false (.one (.sl (.one (.int .u8)))) false]) (rs := [.val false (.one .bool) true]) g_43 mixed Try.func7 (by kernel_rfl) (by kernel_rfl : Try.f7.body = some (codeOf Try.f7))
  rw [e_laws_FnMibsBent] at h
  exact h
noncomputable def fns_7 : List (FuncId × Fn) := (7, F_laws_FnMibsBent) :: fns_43
theorem g_7 : Good Try.prog ⟨tis, fns_7⟩ := g_43.cons m_laws_FnMibsBent
end Go.V.W
