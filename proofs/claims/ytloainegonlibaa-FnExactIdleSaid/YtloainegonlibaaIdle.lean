/- The law FnExactIdle: part of the proof that for every input it returns true. No condition. -/
import Derived.Test.YtloainegonlibaaV3
import Derived.Test.YtloainegonlibaaProg
import Derived.Test.YtloainegonlibaaChecked
import Derived.KernelRfl
namespace Go.V.W
open Go.Proofs
set_option linter.unusedVariables false
@[reducible] def cVec : Cs := .cons (.int .i64) (.cons (.int .i64) (.cons (.int .i64) (.cons (.int .i64) (.one (.int .i64)))))
@[reducible] def cPt : Cs := .cons .bool (.cons (.int .i64) (.cons .bool (.cons (.int .i64) (.cons (.int .i64) (.cons (.int .i64) (.cons (.int .i64) (.one (.int .i64))))))))
@[reducible] def cFent : Cs := .cons (.int .i64) (.cons (.int .i64) (.cons (.int .i64) (.cons (.int .i64) (.one .bool))))
@[reducible] def cVrow : Cs := .cons (.int .i64) (.cons (.int .i64) (.one (.int .i64)))
@[reducible] def cVtab : Cs := .cons (.sl cVrow) (.one (.sl (.one (.int .i64))))
@[reducible] def cBridge : Cs := .cons (.int .i64) (.cons .str (.cons (.sl cPt) (.cons (.sl cFent) (.cons (.sl cVrow) (.cons (.sl (.one (.int .i64))) (.cons (.int .i64) (.cons (.int .i64) (.cons (.int .i64) (.cons (.int .i64) (.one (.int .i64)))))))))))
@[reducible] def cVal : Cs := .cons (.int .i64) (.cons (.int .i64) (.cons .str (.one (.sl (.one (.int .i64))))))
@[reducible] def cBind : Cs := .cons (.sl (.one (.int .i64))) (.cons (.int .i64) (.cons (.int .i64) (.cons .str (.one (.sl (.one (.int .i64)))))))
@[reducible] def cPdu : Cs := .cons (.int .i64) (.cons (.int .i64) (.cons (.int .i64) (.cons (.int .i64) (.one (.sl cBind)))))
@[reducible] def cJob : Cs := .cons (.int .i64) (.cons (.sl (.one (.int .u8))) (.cons (.int .i64) (.cons (.int .i64) (.cons (.int .i64) (.cons (.int .i64) (.cons (.int .i64) (.cons (.sl cBind) (.cons (.int .i64) (.cons .str (.cons (.sl cPt) (.cons (.sl cFent) (.cons (.sl cVrow) (.cons (.sl (.one (.int .i64))) (.cons (.int .i64) (.cons (.int .i64) (.cons (.int .i64) (.cons (.int .i64) (.cons (.int .i64) (.cons (.int .i64) (.one (.int .i64)))))))))))))))))))))
@[reducible] def cAgent : Cs := .cons (.int .i64) (.cons .str (.cons (.sl cPt) (.cons (.sl cFent) (.cons (.sl cVrow) (.cons (.sl (.one (.int .i64))) (.cons (.int .i64) (.cons (.int .i64) (.cons (.int .i64) (.cons (.int .i64) (.cons (.int .i64) (.cons .str (.cons (.sl cJob) (.cons (.int .i64) (.one (.int .i64)))))))))))))))
abbrev Vec : Type := Int × Int × Int × Int × Int
abbrev Pt : Type := Bool × Int × Bool × Int × Int × Int × Int × Int
abbrev Fent : Type := Int × Int × Int × Int × Bool
abbrev Vrow : Type := Int × Int × Int
abbrev Vtab : Type := List Vrow × List Int
abbrev Bridge : Type := Int × List UInt8 × List Pt × List Fent × List Vrow × List Int × Int × Int × Int × Int × Int
abbrev Val : Type := Int × Int × List UInt8 × List Int
abbrev Bind : Type := List Int × Int × Int × List UInt8 × List Int
abbrev Pdu : Type := Int × Int × Int × Int × List Bind
abbrev Job : Type := Int × List Int × Int × Int × Int × Int × Int × List Bind × Int × List UInt8 × List Pt × List Fent × List Vrow × List Int × Int × Int × Int × Int × Int × Int × Int
abbrev Agent : Type := Int × List UInt8 × List Pt × List Fent × List Vrow × List Int × Int × Int × Int × Int × Int × List UInt8 × List Job × Int × Int
def tis : List (Nat × TInfo) := [(2, ⟨false, .one (.int .i64), [], 0⟩),
  (3, ⟨false, .one (.int .i64), [], 0⟩),
  (4, ⟨false, .one .bool, [], 0⟩),
  (5, ⟨false, .one (.int .u8), [], 0⟩),
  (6, ⟨false, .one (.int .u8), [], 0⟩),
  (9, ⟨false, .one .str, [], 0⟩),
  (10, ⟨false, .one .str, [], 0⟩),
  (11, ⟨false, .one .str, [], 0⟩),
  (12, ⟨false, .one (.int .u64), [], 0⟩),
  (21, ⟨false, .one (.int .i32), [], 0⟩),
  (22, ⟨false, .one (.sl (.one (.int .u8))), [], 5⟩),
  (24, ⟨false, .one (.sl cPt), [], 114⟩),
  (25, ⟨false, .one (.sl cFent), [], 166⟩),
  (26, ⟨false, .one (.sl cVrow), [], 164⟩),
  (27, ⟨false, .one (.sl (.one (.int .i64))), [], 3⟩),
  (28, ⟨true, cVtab, [(26, 0), (27, 1)], 0⟩),
  (29, ⟨true, cVtab, [(26, 0), (27, 1)], 0⟩),
  (30, ⟨true, cBridge, [(3, 0), (9, 1), (24, 2), (25, 3), (29, 4), (3, 6), (3, 7), (3, 8), (3, 9), (3, 10)], 0⟩),
  (31, ⟨true, cBridge, [(3, 0), (9, 1), (24, 2), (25, 3), (29, 4), (3, 6), (3, 7), (3, 8), (3, 9), (3, 10)], 0⟩),
  (36, ⟨true, cVal, [(3, 0), (3, 1), (9, 2), (27, 3)], 0⟩),
  (37, ⟨true, cVal, [(3, 0), (3, 1), (9, 2), (27, 3)], 0⟩),
  (39, ⟨true, cBind, [(27, 0), (37, 1)], 0⟩),
  (40, ⟨true, cBind, [(27, 0), (37, 1)], 0⟩),
  (41, ⟨false, .one (.sl cBind), [], 40⟩),
  (43, ⟨false, .one (.sl (.cons (.int .i64) (.cons (.int .i64) (.cons (.int .i64) (.cons (.int .i64) (.one (.sl (.one (.int .u8))))))))), [], 49⟩),
  (46, ⟨true, .cons (.int .i64) (.cons (.int .i64) (.cons (.int .i64) (.one (.sl (.one (.int .u8)))))), [(3, 0), (3, 1), (3, 2), (22, 3)], 0⟩),
  (47, ⟨true, .cons (.int .i64) (.cons (.int .i64) (.cons (.int .i64) (.one (.sl (.one (.int .u8)))))), [(3, 0), (3, 1), (3, 2), (22, 3)], 0⟩),
  (48, ⟨true, .cons (.int .i64) (.cons (.int .i64) (.cons (.int .i64) (.cons (.int .i64) (.one (.sl (.one (.int .u8))))))), [(3, 0), (47, 1)], 0⟩),
  (49, ⟨true, .cons (.int .i64) (.cons (.int .i64) (.cons (.int .i64) (.cons (.int .i64) (.one (.sl (.one (.int .u8))))))), [(3, 0), (47, 1)], 0⟩),
  (50, ⟨false, .one (.sl cPt), [], 202⟩),
  (51, ⟨false, .one (.sl cFent), [], 204⟩),
  (52, ⟨false, .one (.sl cVrow), [], 265⟩),
  (53, ⟨true, cVtab, [(52, 0), (27, 1)], 0⟩),
  (54, ⟨true, cVtab, [(52, 0), (27, 1)], 0⟩),
  (55, ⟨true, cBridge, [(3, 0), (9, 1), (50, 2), (51, 3), (54, 4), (3, 6), (3, 7), (3, 8), (3, 9), (3, 10)], 0⟩),
  (56, ⟨true, cBridge, [(3, 0), (9, 1), (50, 2), (51, 3), (54, 4), (3, 6), (3, 7), (3, 8), (3, 9), (3, 10)], 0⟩),
  (62, ⟨false, .one (.sl cJob), [], 222⟩),
  (63, ⟨true, cAgent, [(56, 0), (9, 11), (62, 12), (3, 13), (3, 14)], 0⟩),
  (64, ⟨true, cAgent, [(56, 0), (9, 11), (62, 12), (3, 13), (3, 14)], 0⟩),
  (67, ⟨false, .one (.sl cJob), [], 226⟩),
  (68, ⟨true, cAgent, [(31, 0), (9, 11), (67, 12), (3, 13), (3, 14)], 0⟩),
  (69, ⟨true, cAgent, [(31, 0), (9, 11), (67, 12), (3, 13), (3, 14)], 0⟩),
  (73, ⟨false, .one (.sl cBridge), [], 31⟩),
  (74, ⟨false, .one (.sl (.cons (.int .i64) (.cons (.int .i64) (.cons (.int .i64) (.one (.int .i64)))))), [], 148⟩),
  (75, ⟨false, .one (.sl (.cons (.int .i64) (.cons .bool (.cons (.int .i64) (.cons (.int .i64) (.cons (.int .i64) (.cons (.int .i64) (.one (.int .i64))))))))), [], 234⟩),
  (76, ⟨true, .cons (.sl cBridge) (.cons (.sl (.cons (.int .i64) (.cons (.int .i64) (.cons (.int .i64) (.one (.int .i64)))))) (.one (.sl (.cons (.int .i64) (.cons .bool (.cons (.int .i64) (.cons (.int .i64) (.cons (.int .i64) (.cons (.int .i64) (.one (.int .i64))))))))))), [(73, 0), (74, 1), (75, 2)], 0⟩),
  (77, ⟨true, .cons (.sl cBridge) (.cons (.sl (.cons (.int .i64) (.cons (.int .i64) (.cons (.int .i64) (.one (.int .i64)))))) (.one (.sl (.cons (.int .i64) (.cons .bool (.cons (.int .i64) (.cons (.int .i64) (.cons (.int .i64) (.cons (.int .i64) (.one (.int .i64))))))))))), [(73, 0), (74, 1), (75, 2)], 0⟩),
  (84, ⟨true, .cons (.int .i64) (.one (.int .i64)), [(3, 0), (3, 1)], 0⟩),
  (85, ⟨true, .cons (.int .i64) (.one (.int .i64)), [(3, 0), (3, 1)], 0⟩),
  (95, ⟨false, .one (.sl cBridge), [], 56⟩),
  (96, ⟨false, .one (.sl (.cons (.int .i64) (.cons (.int .i64) (.cons (.int .i64) (.one (.int .i64)))))), [], 252⟩),
  (97, ⟨false, .one (.sl (.cons (.int .i64) (.cons .bool (.cons (.int .i64) (.cons (.int .i64) (.cons (.int .i64) (.cons (.int .i64) (.one (.int .i64))))))))), [], 255⟩),
  (98, ⟨true, .cons (.sl cBridge) (.cons (.sl (.cons (.int .i64) (.cons (.int .i64) (.cons (.int .i64) (.one (.int .i64)))))) (.one (.sl (.cons (.int .i64) (.cons .bool (.cons (.int .i64) (.cons (.int .i64) (.cons (.int .i64) (.cons (.int .i64) (.one (.int .i64))))))))))), [(95, 0), (96, 1), (97, 2)], 0⟩),
  (99, ⟨true, .cons (.sl cBridge) (.cons (.sl (.cons (.int .i64) (.cons (.int .i64) (.cons (.int .i64) (.one (.int .i64)))))) (.one (.sl (.cons (.int .i64) (.cons .bool (.cons (.int .i64) (.cons (.int .i64) (.cons (.int .i64) (.cons (.int .i64) (.one (.int .i64))))))))))), [(95, 0), (96, 1), (97, 2)], 0⟩),
  (111, ⟨true, cVec, [(3, 0), (3, 1), (3, 2), (3, 3), (3, 4)], 0⟩),
  (112, ⟨true, cVec, [(3, 0), (3, 1), (3, 2), (3, 3), (3, 4)], 0⟩),
  (113, ⟨true, cPt, [(4, 0), (3, 1), (4, 2), (112, 3)], 0⟩),
  (114, ⟨true, cPt, [(4, 0), (3, 1), (4, 2), (112, 3)], 0⟩),
  (138, ⟨false, .one (.sl (.one .str)), [], 9⟩),
  (147, ⟨true, .cons (.int .i64) (.cons (.int .i64) (.cons (.int .i64) (.one (.int .i64)))), [(3, 0), (3, 1), (3, 2), (3, 3)], 0⟩),
  (148, ⟨true, .cons (.int .i64) (.cons (.int .i64) (.cons (.int .i64) (.one (.int .i64)))), [(3, 0), (3, 1), (3, 2), (3, 3)], 0⟩),
  (163, ⟨true, cVrow, [(3, 0), (3, 1), (3, 2)], 0⟩),
  (164, ⟨true, cVrow, [(3, 0), (3, 1), (3, 2)], 0⟩),
  (165, ⟨true, cFent, [(3, 0), (3, 1), (3, 2), (3, 3), (4, 4)], 0⟩),
  (166, ⟨true, cFent, [(3, 0), (3, 1), (3, 2), (3, 3), (4, 4)], 0⟩),
  (200, ⟨true, cVec, [(3, 0), (3, 1), (3, 2), (3, 3), (3, 4)], 0⟩),
  (201, ⟨true, cPt, [(4, 0), (3, 1), (4, 2), (200, 3)], 0⟩),
  (202, ⟨true, cPt, [(4, 0), (3, 1), (4, 2), (200, 3)], 0⟩),
  (204, ⟨true, cFent, [(3, 0), (3, 1), (3, 2), (3, 3), (4, 4)], 0⟩),
  (210, ⟨false, .one .err, [], 0⟩),
  (218, ⟨false, .one (.sl cBind), [], 293⟩),
  (219, ⟨true, cPdu, [(3, 0), (3, 1), (3, 2), (3, 3), (218, 4)], 0⟩),
  (220, ⟨true, cPdu, [(3, 0), (3, 1), (3, 2), (3, 3), (218, 4)], 0⟩),
  (221, ⟨true, cJob, [(3, 0), (22, 1), (3, 2), (220, 3), (56, 8), (3, 19), (3, 20)], 0⟩),
  (222, ⟨true, cJob, [(3, 0), (22, 1), (3, 2), (220, 3), (56, 8), (3, 19), (3, 20)], 0⟩),
  (223, ⟨true, cPdu, [(3, 0), (3, 1), (3, 2), (3, 3), (41, 4)], 0⟩),
  (224, ⟨true, cPdu, [(3, 0), (3, 1), (3, 2), (3, 3), (41, 4)], 0⟩),
  (225, ⟨true, cJob, [(3, 0), (22, 1), (3, 2), (224, 3), (31, 8), (3, 19), (3, 20)], 0⟩),
  (226, ⟨true, cJob, [(3, 0), (22, 1), (3, 2), (224, 3), (31, 8), (3, 19), (3, 20)], 0⟩),
  (233, ⟨true, .cons (.int .i64) (.cons .bool (.cons (.int .i64) (.cons (.int .i64) (.cons (.int .i64) (.cons (.int .i64) (.one (.int .i64))))))), [(3, 0), (4, 1), (112, 2)], 0⟩),
  (234, ⟨true, .cons (.int .i64) (.cons .bool (.cons (.int .i64) (.cons (.int .i64) (.cons (.int .i64) (.cons (.int .i64) (.one (.int .i64))))))), [(3, 0), (4, 1), (112, 2)], 0⟩),
  (239, ⟨true, .cons (.sl (.one (.int .u8))) (.cons (.int .i64) (.one (.int .i64))), [(22, 0), (3, 1), (3, 2)], 0⟩),
  (240, ⟨true, .cons (.sl (.one (.int .u8))) (.cons (.int .i64) (.one (.int .i64))), [(22, 0), (3, 1), (3, 2)], 0⟩),
  (252, ⟨true, .cons (.int .i64) (.cons (.int .i64) (.cons (.int .i64) (.one (.int .i64)))), [(3, 0), (3, 1), (3, 2), (3, 3)], 0⟩),
  (254, ⟨true, .cons (.int .i64) (.cons .bool (.cons (.int .i64) (.cons (.int .i64) (.cons (.int .i64) (.cons (.int .i64) (.one (.int .i64))))))), [(3, 0), (4, 1), (200, 2)], 0⟩),
  (255, ⟨true, .cons (.int .i64) (.cons .bool (.cons (.int .i64) (.cons (.int .i64) (.cons (.int .i64) (.cons (.int .i64) (.one (.int .i64))))))), [(3, 0), (4, 1), (200, 2)], 0⟩),
  (265, ⟨true, cVrow, [(3, 0), (3, 1), (3, 2)], 0⟩),
  (273, ⟨false, .one (.sl (.one .bool)), [], 4⟩),
  (281, ⟨false, .one (.int .u64), [], 0⟩),
  (291, ⟨true, cVal, [(3, 0), (3, 1), (9, 2), (27, 3)], 0⟩),
  (292, ⟨true, cBind, [(27, 0), (291, 1)], 0⟩),
  (293, ⟨true, cBind, [(27, 0), (291, 1)], 0⟩),
  (304, ⟨false, .one (.int .u32), [], 0⟩),
  (305, ⟨false, .one (.int .u8), [], 0⟩),
  (306, ⟨false, .one (.int .u8), [], 0⟩),
  (308, ⟨false, .one (.int .i32), [], 0⟩),
  (309, ⟨false, .one (.int .i32), [], 0⟩)]
theorem tisT : Tis Try.prog tis := Tis.of_all (by kernel_rfl)
theorem tisE : Eqs Try.prog tis := Eqs.of_all (by kernel_rfl)
theorem tisD : Deep Try.prog tis := Deep.of_all (by kernel_rfl)
theorem mixed : Try.prog.follows .mixedOrders = true := by kernel_rfl
def codeOf (fn : Func) : Code := match fn.body with | some c => c | none => .skip
theorem g_0 : Good Try.prog ⟨tis, []⟩ := ⟨tisT, tisE, fun f F h => by cases h⟩
noncomputable def laws_szPtS (a0 : List Pt) (left1 : Int) : Option Int :=
  let left1_1 := w64 (left1 - (a0.length : Int))
  cond (decide (left1_1 < 0)) (some (-1)) (some left1_1)
noncomputable def F_laws_szPtS : Fn := ⟨[.val false (.one (.sl cPt)) false, .val false (.one (.int .i64)) false], [.val false (.one (.int .i64)) true], fun a => laws_szPtS a.1 a.2⟩
def a_laws_szPtS : List (Nat × LoopAnn) := []
theorem e_laws_szPtS : fnDen ⟨tis, []⟩ a_laws_szPtS Try.f72 (codeOf Try.f72) [.val false (.one (.sl cPt)) false, .val false (.one (.int .i64)) false] [.val false (.one (.int .i64)) true] = fun a => laws_szPtS a.1 a.2 := by kernel_rfl
theorem m_laws_szPtS : Meets Try.prog 72 F_laws_szPtS := by
  have h := meets_of (ann := a_laws_szPtS) (ps := [.val false (.one (.sl cPt)) false, .val false (.one (.int .i64)) false]) (rs := [.val false (.one (.int .i64)) true]) g_0 mixed Try.func72 (by kernel_rfl) (by kernel_rfl : Try.f72.body = some (codeOf Try.f72))
  rw [e_laws_szPtS] at h
  exact h
noncomputable def fns_72 : List (FuncId × Fn) := (72, F_laws_szPtS) :: []
theorem g_72 : Good Try.prog ⟨tis, fns_72⟩ := g_0.cons m_laws_szPtS
noncomputable def laws_szFentS (a0 : List Fent) (left1 : Int) : Option Int :=
  let left1_1 := w64 (left1 - (a0.length : Int))
  cond (decide (left1_1 < 0)) (some (-1)) (some left1_1)
noncomputable def F_laws_szFentS : Fn := ⟨[.val false (.one (.sl cFent)) false, .val false (.one (.int .i64)) false], [.val false (.one (.int .i64)) true], fun a => laws_szFentS a.1 a.2⟩
def a_laws_szFentS : List (Nat × LoopAnn) := []
theorem e_laws_szFentS : fnDen ⟨tis, fns_72⟩ a_laws_szFentS Try.f73 (codeOf Try.f73) [.val false (.one (.sl cFent)) false, .val false (.one (.int .i64)) false] [.val false (.one (.int .i64)) true] = fun a => laws_szFentS a.1 a.2 := by kernel_rfl
theorem m_laws_szFentS : Meets Try.prog 73 F_laws_szFentS := by
  have h := meets_of (ann := a_laws_szFentS) (ps := [.val false (.one (.sl cFent)) false, .val false (.one (.int .i64)) false]) (rs := [.val false (.one (.int .i64)) true]) g_72 mixed Try.func73 (by kernel_rfl) (by kernel_rfl : Try.f73.body = some (codeOf Try.f73))
  rw [e_laws_szFentS] at h
  exact h
noncomputable def fns_73 : List (FuncId × Fn) := (73, F_laws_szFentS) :: fns_72
theorem g_73 : Good Try.prog ⟨tis, fns_73⟩ := g_72.cons m_laws_szFentS
noncomputable def laws_szVrowS (a0 : List Vrow) (left1 : Int) : Option Int :=
  let left1_1 := w64 (left1 - (a0.length : Int))
  cond (decide (left1_1 < 0)) (some (-1)) (some left1_1)
noncomputable def F_laws_szVrowS : Fn := ⟨[.val false (.one (.sl cVrow)) false, .val false (.one (.int .i64)) false], [.val false (.one (.int .i64)) true], fun a => laws_szVrowS a.1 a.2⟩
def a_laws_szVrowS : List (Nat × LoopAnn) := []
theorem e_laws_szVrowS : fnDen ⟨tis, fns_73⟩ a_laws_szVrowS Try.f142 (codeOf Try.f142) [.val false (.one (.sl cVrow)) false, .val false (.one (.int .i64)) false] [.val false (.one (.int .i64)) true] = fun a => laws_szVrowS a.1 a.2 := by kernel_rfl
theorem m_laws_szVrowS : Meets Try.prog 142 F_laws_szVrowS := by
  have h := meets_of (ann := a_laws_szVrowS) (ps := [.val false (.one (.sl cVrow)) false, .val false (.one (.int .i64)) false]) (rs := [.val false (.one (.int .i64)) true]) g_73 mixed Try.func142 (by kernel_rfl) (by kernel_rfl : Try.f142.body = some (codeOf Try.f142))
  rw [e_laws_szVrowS] at h
  exact h
noncomputable def fns_142 : List (FuncId × Fn) := (142, F_laws_szVrowS) :: fns_73
theorem g_142 : Good Try.prog ⟨tis, fns_142⟩ := g_73.cons m_laws_szVrowS
noncomputable def laws_szIntS (a0 : List Int) (left1 : Int) : Option Int :=
  let left1_1 := w64 (left1 - (a0.length : Int))
  cond (decide (left1_1 < 0)) (some (-1)) (some left1_1)
noncomputable def F_laws_szIntS : Fn := ⟨[.val false (.one (.sl (.one (.int .i64)))) false, .val false (.one (.int .i64)) false], [.val false (.one (.int .i64)) true], fun a => laws_szIntS a.1 a.2⟩
def a_laws_szIntS : List (Nat × LoopAnn) := []
theorem e_laws_szIntS : fnDen ⟨tis, fns_142⟩ a_laws_szIntS Try.f143 (codeOf Try.f143) [.val false (.one (.sl (.one (.int .i64)))) false, .val false (.one (.int .i64)) false] [.val false (.one (.int .i64)) true] = fun a => laws_szIntS a.1 a.2 := by kernel_rfl
theorem m_laws_szIntS : Meets Try.prog 143 F_laws_szIntS := by
  have h := meets_of (ann := a_laws_szIntS) (ps := [.val false (.one (.sl (.one (.int .i64)))) false, .val false (.one (.int .i64)) false]) (rs := [.val false (.one (.int .i64)) true]) g_142 mixed Try.func143 (by kernel_rfl) (by kernel_rfl : Try.f143.body = some (codeOf Try.f143))
  rw [e_laws_szIntS] at h
  exact h
noncomputable def fns_143 : List (FuncId × Fn) := (143, F_laws_szIntS) :: fns_142
theorem g_143 : Good Try.prog ⟨tis, fns_143⟩ := g_142.cons m_laws_szIntS
noncomputable def laws_szVtab (a0 : Vtab) (left1 : Int) : Option Int :=
  (laws_szVrowS a0.1 left1).bind fun t8 =>
  cond (decide (t8 < 0))
    (some (-1))
    ((laws_szIntS a0.2 t8).bind fun t14 =>
    cond (decide (t14 < 0)) (some (-1)) (some t14))
noncomputable def F_laws_szVtab : Fn := ⟨[.val true cVtab false, .val false (.one (.int .i64)) false], [.val false (.one (.int .i64)) true], fun a => laws_szVtab a.1 a.2⟩
def a_laws_szVtab : List (Nat × LoopAnn) := []
theorem e_laws_szVtab : fnDen ⟨tis, fns_143⟩ a_laws_szVtab Try.f74 (codeOf Try.f74) [.val true cVtab false, .val false (.one (.int .i64)) false] [.val false (.one (.int .i64)) true] = fun a => laws_szVtab a.1 a.2 := by kernel_rfl
theorem m_laws_szVtab : Meets Try.prog 74 F_laws_szVtab := by
  have h := meets_of (ann := a_laws_szVtab) (ps := [.val true cVtab false, .val false (.one (.int .i64)) false]) (rs := [.val false (.one (.int .i64)) true]) g_143 mixed Try.func74 (by kernel_rfl) (by kernel_rfl : Try.f74.body = some (codeOf Try.f74))
  rw [e_laws_szVtab] at h
  exact h
noncomputable def fns_74 : List (FuncId × Fn) := (74, F_laws_szVtab) :: fns_143
theorem g_74 : Good Try.prog ⟨tis, fns_74⟩ := g_143.cons m_laws_szVtab
noncomputable def laws_szBridge (a0 : Bridge) (left1 : Int) : Option Int :=
  let left1_1 := w64 (left1 - (a0.2.1.length : Int))
  cond (decide (left1_1 < 0))
    (some (-1))
    ((laws_szPtS a0.2.2.1 left1_1).bind fun t15 =>
    cond (decide (t15 < 0))
      (some (-1))
      ((laws_szFentS a0.2.2.2.1 t15).bind fun t21 =>
      cond (decide (t21 < 0))
        (some (-1))
        ((laws_szVtab (a0.2.2.2.2.1, a0.2.2.2.2.2.1) t21).bind fun t27 =>
        cond (decide (t27 < 0)) (some (-1)) (some t27))))
noncomputable def F_laws_szBridge : Fn := ⟨[.val true cBridge false, .val false (.one (.int .i64)) false], [.val false (.one (.int .i64)) true], fun a => laws_szBridge a.1 a.2⟩
def a_laws_szBridge : List (Nat × LoopAnn) := []
theorem e_laws_szBridge : fnDen ⟨tis, fns_74⟩ a_laws_szBridge Try.f18 (codeOf Try.f18) [.val true cBridge false, .val false (.one (.int .i64)) false] [.val false (.one (.int .i64)) true] = fun a => laws_szBridge a.1 a.2 := by kernel_rfl
theorem m_laws_szBridge : Meets Try.prog 18 F_laws_szBridge := by
  have h := meets_of (ann := a_laws_szBridge) (ps := [.val true cBridge false, .val false (.one (.int .i64)) false]) (rs := [.val false (.one (.int .i64)) true]) g_74 mixed Try.func18 (by kernel_rfl) (by kernel_rfl : Try.f18.body = some (codeOf Try.f18))
  rw [e_laws_szBridge] at h
  exact h
noncomputable def fns_18 : List (FuncId × Fn) := (18, F_laws_szBridge) :: fns_74
theorem g_18 : Good Try.prog ⟨tis, fns_18⟩ := g_74.cons m_laws_szBridge
noncomputable def laws_szByteS (a0 : List Int) (left1 : Int) : Option Int :=
  let left1_1 := w64 (left1 - (a0.length : Int))
  cond (decide (left1_1 < 0)) (some (-1)) (some left1_1)
noncomputable def F_laws_szByteS : Fn := ⟨[.val false (.one (.sl (.one (.int .u8)))) false, .val false (.one (.int .i64)) false], [.val false (.one (.int .i64)) true], fun a => laws_szByteS a.1 a.2⟩
def a_laws_szByteS : List (Nat × LoopAnn) := []
theorem e_laws_szByteS : fnDen ⟨tis, fns_18⟩ a_laws_szByteS Try.f208 (codeOf Try.f208) [.val false (.one (.sl (.one (.int .u8)))) false, .val false (.one (.int .i64)) false] [.val false (.one (.int .i64)) true] = fun a => laws_szByteS a.1 a.2 := by kernel_rfl
theorem m_laws_szByteS : Meets Try.prog 208 F_laws_szByteS := by
  have h := meets_of (ann := a_laws_szByteS) (ps := [.val false (.one (.sl (.one (.int .u8)))) false, .val false (.one (.int .i64)) false]) (rs := [.val false (.one (.int .i64)) true]) g_18 mixed Try.func208 (by kernel_rfl) (by kernel_rfl : Try.f208.body = some (codeOf Try.f208))
  rw [e_laws_szByteS] at h
  exact h
noncomputable def fns_208 : List (FuncId × Fn) := (208, F_laws_szByteS) :: fns_18
theorem g_208 : Good Try.prog ⟨tis, fns_208⟩ := g_18.cons m_laws_szByteS
noncomputable def laws_szVal (a0 : Val) (left1 : Int) : Option Int :=
  let left1_1 := w64 (left1 - (a0.2.2.1.length : Int))
  cond (decide (left1_1 < 0))
    (some (-1))
    ((laws_szIntS a0.2.2.2 left1_1).bind fun t15 =>
    cond (decide (t15 < 0)) (some (-1)) (some t15))
noncomputable def F_laws_szVal : Fn := ⟨[.val true cVal false, .val false (.one (.int .i64)) false], [.val false (.one (.int .i64)) true], fun a => laws_szVal a.1 a.2⟩
def a_laws_szVal : List (Nat × LoopAnn) := []
theorem e_laws_szVal : fnDen ⟨tis, fns_208⟩ a_laws_szVal Try.f244 (codeOf Try.f244) [.val true cVal false, .val false (.one (.int .i64)) false] [.val false (.one (.int .i64)) true] = fun a => laws_szVal a.1 a.2 := by kernel_rfl
theorem m_laws_szVal : Meets Try.prog 244 F_laws_szVal := by
  have h := meets_of (ann := a_laws_szVal) (ps := [.val true cVal false, .val false (.one (.int .i64)) false]) (rs := [.val false (.one (.int .i64)) true]) g_208 mixed Try.func244 (by kernel_rfl) (by kernel_rfl : Try.f244.body = some (codeOf Try.f244))
  rw [e_laws_szVal] at h
  exact h
noncomputable def fns_244 : List (FuncId × Fn) := (244, F_laws_szVal) :: fns_208
theorem g_244 : Good Try.prog ⟨tis, fns_244⟩ := g_208.cons m_laws_szVal
noncomputable def laws_szBind (a0 : Bind) (left1 : Int) : Option Int :=
  (laws_szIntS a0.1 left1).bind fun t8 =>
  cond (decide (t8 < 0))
    (some (-1))
    ((laws_szVal a0.2 t8).bind fun t14 =>
    cond (decide (t14 < 0)) (some (-1)) (some t14))
noncomputable def F_laws_szBind : Fn := ⟨[.val true cBind false, .val false (.one (.int .i64)) false], [.val false (.one (.int .i64)) true], fun a => laws_szBind a.1 a.2⟩
def a_laws_szBind : List (Nat × LoopAnn) := []
theorem e_laws_szBind : fnDen ⟨tis, fns_244⟩ a_laws_szBind Try.f241 (codeOf Try.f241) [.val true cBind false, .val false (.one (.int .i64)) false] [.val false (.one (.int .i64)) true] = fun a => laws_szBind a.1 a.2 := by kernel_rfl
theorem m_laws_szBind : Meets Try.prog 241 F_laws_szBind := by
  have h := meets_of (ann := a_laws_szBind) (ps := [.val true cBind false, .val false (.one (.int .i64)) false]) (rs := [.val false (.one (.int .i64)) true]) g_244 mixed Try.func241 (by kernel_rfl) (by kernel_rfl : Try.f241.body = some (codeOf Try.f241))
  rw [e_laws_szBind] at h
  exact h
noncomputable def fns_241 : List (FuncId × Fn) := (241, F_laws_szBind) :: fns_244
theorem g_241 : Good Try.prog ⟨tis, fns_241⟩ := g_244.cons m_laws_szBind
noncomputable def laws_szBindS_l0 (a0 : List Bind) (left1_2 : Int) (i5 : Int) : Option ((Int × Int) ⊕ (Int ⊕ Int)) :=
  cond (decide (i5 < (a0.length : Int)))
    ((at? a0 i5).bind fun x20 =>
    (laws_szBind x20 left1_2).bind fun t23 =>
    cond (decide (t23 < 0)) (some (.inr (.inr (-1)))) (some (.inl (t23, w64 (i5 + 1)))))
    (some (.inr (.inl left1_2)))
noncomputable def laws_szBindS (a0 : List Bind) (left1 : Int) : Option Int :=
  let left1_1 := w64 (left1 - (a0.length : Int))
  cond (decide (left1_1 < 0))
    (some (-1))
    ((loop (fun z => laws_szBindS_l0 a0 z.1 z.2) (left1_1, 0)).bind (Sum.elim (fun d =>
      some d) (fun r => some r)))
noncomputable def F_laws_szBindS : Fn := ⟨[.val false (.one (.sl cBind)) false, .val false (.one (.int .i64)) false], [.val false (.one (.int .i64)) true], fun a => laws_szBindS a.1 a.2⟩
def a_laws_szBindS : List (Nat × LoopAnn) := [(0, ⟨⟨[(1, false, [.dat (.int .i64)]), (5, false, [.dat (.int .i64)])], []⟩,
    ⟨[(1, false, [.dat (.int .i64)])], []⟩, some ⟨[(4, false, [.dat (.int .i64)])], []⟩⟩)]
theorem e_laws_szBindS : fnDen ⟨tis, fns_241⟩ a_laws_szBindS Try.f235 (codeOf Try.f235) [.val false (.one (.sl cBind)) false, .val false (.one (.int .i64)) false] [.val false (.one (.int .i64)) true] = fun a => laws_szBindS a.1 a.2 := by kernel_rfl
theorem m_laws_szBindS : Meets Try.prog 235 F_laws_szBindS := by
  have h := meets_of (ann := a_laws_szBindS) (ps := [.val false (.one (.sl cBind)) false, .val false (.one (.int .i64)) false]) (rs := [.val false (.one (.int .i64)) true]) g_241 mixed Try.func235 (by kernel_rfl) (by kernel_rfl : Try.f235.body = some (codeOf Try.f235))
  rw [e_laws_szBindS] at h
  exact h
noncomputable def fns_235 : List (FuncId × Fn) := (235, F_laws_szBindS) :: fns_241
theorem g_235 : Good Try.prog ⟨tis, fns_235⟩ := g_241.cons m_laws_szBindS
noncomputable def laws_szPdu (a0 : Pdu) (left1 : Int) : Option Int :=
  (laws_szBindS a0.2.2.2.2 left1).bind fun t8 =>
  cond (decide (t8 < 0)) (some (-1)) (some t8)
noncomputable def F_laws_szPdu : Fn := ⟨[.val true cPdu false, .val false (.one (.int .i64)) false], [.val false (.one (.int .i64)) true], fun a => laws_szPdu a.1 a.2⟩
def a_laws_szPdu : List (Nat × LoopAnn) := []
theorem e_laws_szPdu : fnDen ⟨tis, fns_235⟩ a_laws_szPdu Try.f209 (codeOf Try.f209) [.val true cPdu false, .val false (.one (.int .i64)) false] [.val false (.one (.int .i64)) true] = fun a => laws_szPdu a.1 a.2 := by kernel_rfl
theorem m_laws_szPdu : Meets Try.prog 209 F_laws_szPdu := by
  have h := meets_of (ann := a_laws_szPdu) (ps := [.val true cPdu false, .val false (.one (.int .i64)) false]) (rs := [.val false (.one (.int .i64)) true]) g_235 mixed Try.func209 (by kernel_rfl) (by kernel_rfl : Try.f209.body = some (codeOf Try.f209))
  rw [e_laws_szPdu] at h
  exact h
noncomputable def fns_209 : List (FuncId × Fn) := (209, F_laws_szPdu) :: fns_235
theorem g_209 : Good Try.prog ⟨tis, fns_209⟩ := g_235.cons m_laws_szPdu
noncomputable def laws_szJob (a0 : Job) (left1 : Int) : Option Int :=
  (laws_szByteS a0.2.1 left1).bind fun t8 =>
  cond (decide (t8 < 0))
    (some (-1))
    ((laws_szPdu (a0.2.2.2.1, a0.2.2.2.2.1, a0.2.2.2.2.2.1, a0.2.2.2.2.2.2.1, a0.2.2.2.2.2.2.2.1) t8).bind fun t14 =>
    cond (decide (t14 < 0))
      (some (-1))
      ((laws_szBridge (a0.2.2.2.2.2.2.2.2.1, a0.2.2.2.2.2.2.2.2.2.1, a0.2.2.2.2.2.2.2.2.2.2.1, a0.2.2.2.2.2.2.2.2.2.2.2.1, a0.2.2.2.2.2.2.2.2.2.2.2.2.1, a0.2.2.2.2.2.2.2.2.2.2.2.2.2.1, a0.2.2.2.2.2.2.2.2.2.2.2.2.2.2.1, a0.2.2.2.2.2.2.2.2.2.2.2.2.2.2.2.1, a0.2.2.2.2.2.2.2.2.2.2.2.2.2.2.2.2.1, a0.2.2.2.2.2.2.2.2.2.2.2.2.2.2.2.2.2.1, a0.2.2.2.2.2.2.2.2.2.2.2.2.2.2.2.2.2.2.1) t14).bind fun t20 =>
      cond (decide (t20 < 0)) (some (-1)) (some t20)))
noncomputable def F_laws_szJob : Fn := ⟨[.val true cJob false, .val false (.one (.int .i64)) false], [.val false (.one (.int .i64)) true], fun a => laws_szJob a.1 a.2⟩
def a_laws_szJob : List (Nat × LoopAnn) := []
theorem e_laws_szJob : fnDen ⟨tis, fns_209⟩ a_laws_szJob Try.f162 (codeOf Try.f162) [.val true cJob false, .val false (.one (.int .i64)) false] [.val false (.one (.int .i64)) true] = fun a => laws_szJob a.1 a.2 := by kernel_rfl
theorem m_laws_szJob : Meets Try.prog 162 F_laws_szJob := by
  have h := meets_of (ann := a_laws_szJob) (ps := [.val true cJob false, .val false (.one (.int .i64)) false]) (rs := [.val false (.one (.int .i64)) true]) g_209 mixed Try.func162 (by kernel_rfl) (by kernel_rfl : Try.f162.body = some (codeOf Try.f162))
  rw [e_laws_szJob] at h
  exact h
noncomputable def fns_162 : List (FuncId × Fn) := (162, F_laws_szJob) :: fns_209
theorem g_162 : Good Try.prog ⟨tis, fns_162⟩ := g_209.cons m_laws_szJob
noncomputable def laws_szJobS_l0 (a0 : List Job) (left1_2 : Int) (i5 : Int) : Option ((Int × Int) ⊕ (Int ⊕ Int)) :=
  cond (decide (i5 < (a0.length : Int)))
    ((at? a0 i5).bind fun x20 =>
    (laws_szJob x20 left1_2).bind fun t23 =>
    cond (decide (t23 < 0)) (some (.inr (.inr (-1)))) (some (.inl (t23, w64 (i5 + 1)))))
    (some (.inr (.inl left1_2)))
noncomputable def laws_szJobS (a0 : List Job) (left1 : Int) : Option Int :=
  let left1_1 := w64 (left1 - (a0.length : Int))
  cond (decide (left1_1 < 0))
    (some (-1))
    ((loop (fun z => laws_szJobS_l0 a0 z.1 z.2) (left1_1, 0)).bind (Sum.elim (fun d =>
      some d) (fun r => some r)))
noncomputable def F_laws_szJobS : Fn := ⟨[.val false (.one (.sl cJob)) false, .val false (.one (.int .i64)) false], [.val false (.one (.int .i64)) true], fun a => laws_szJobS a.1 a.2⟩
def a_laws_szJobS : List (Nat × LoopAnn) := [(0, ⟨⟨[(1, false, [.dat (.int .i64)]), (5, false, [.dat (.int .i64)])], []⟩,
    ⟨[(1, false, [.dat (.int .i64)])], []⟩, some ⟨[(4, false, [.dat (.int .i64)])], []⟩⟩)]
theorem e_laws_szJobS : fnDen ⟨tis, fns_162⟩ a_laws_szJobS Try.f84 (codeOf Try.f84) [.val false (.one (.sl cJob)) false, .val false (.one (.int .i64)) false] [.val false (.one (.int .i64)) true] = fun a => laws_szJobS a.1 a.2 := by kernel_rfl
theorem m_laws_szJobS : Meets Try.prog 84 F_laws_szJobS := by
  have h := meets_of (ann := a_laws_szJobS) (ps := [.val false (.one (.sl cJob)) false, .val false (.one (.int .i64)) false]) (rs := [.val false (.one (.int .i64)) true]) g_162 mixed Try.func84 (by kernel_rfl) (by kernel_rfl : Try.f84.body = some (codeOf Try.f84))
  rw [e_laws_szJobS] at h
  exact h
noncomputable def fns_84 : List (FuncId × Fn) := (84, F_laws_szJobS) :: fns_162
theorem g_84 : Good Try.prog ⟨tis, fns_84⟩ := g_162.cons m_laws_szJobS
noncomputable def laws_szAgent (a0 : Agent) (left1 : Int) : Option Int :=
  (laws_szBridge (a0.1, a0.2.1, a0.2.2.1, a0.2.2.2.1, a0.2.2.2.2.1, a0.2.2.2.2.2.1, a0.2.2.2.2.2.2.1, a0.2.2.2.2.2.2.2.1, a0.2.2.2.2.2.2.2.2.1, a0.2.2.2.2.2.2.2.2.2.1, a0.2.2.2.2.2.2.2.2.2.2.1) left1).bind fun t8 =>
  cond (decide (t8 < 0))
    (some (-1))
    (let left1_1 := w64 (t8 - (a0.2.2.2.2.2.2.2.2.2.2.2.1.length : Int))
    cond (decide (left1_1 < 0))
      (some (-1))
      ((laws_szJobS a0.2.2.2.2.2.2.2.2.2.2.2.2.1 left1_1).bind fun t21 =>
      cond (decide (t21 < 0)) (some (-1)) (some t21)))
noncomputable def F_laws_szAgent : Fn := ⟨[.val true cAgent false, .val false (.one (.int .i64)) false], [.val false (.one (.int .i64)) true], fun a => laws_szAgent a.1 a.2⟩
def a_laws_szAgent : List (Nat × LoopAnn) := []
theorem e_laws_szAgent : fnDen ⟨tis, fns_84⟩ a_laws_szAgent Try.f23 (codeOf Try.f23) [.val true cAgent false, .val false (.one (.int .i64)) false] [.val false (.one (.int .i64)) true] = fun a => laws_szAgent a.1 a.2 := by kernel_rfl
theorem m_laws_szAgent : Meets Try.prog 23 F_laws_szAgent := by
  have h := meets_of (ann := a_laws_szAgent) (ps := [.val true cAgent false, .val false (.one (.int .i64)) false]) (rs := [.val false (.one (.int .i64)) true]) g_84 mixed Try.func23 (by kernel_rfl) (by kernel_rfl : Try.f23.body = some (codeOf Try.f23))
  rw [e_laws_szAgent] at h
  exact h
noncomputable def fns_23 : List (FuncId × Fn) := (23, F_laws_szAgent) :: fns_84
theorem g_23 : Good Try.prog ⟨tis, fns_23⟩ := g_84.cons m_laws_szAgent
noncomputable def spec_Idle (a0 : Agent) : Option Bool :=
  let t2 := (a0.2.2.2.2.2.2.2.2.2.2.2.2.1.length : Int) == 0
  some t2
noncomputable def F_spec_Idle : Fn := ⟨[.val true cAgent false], [.val false (.one .bool) true], fun a => spec_Idle a⟩
def a_spec_Idle : List (Nat × LoopAnn) := []
theorem e_spec_Idle : fnDen ⟨tis, fns_23⟩ a_spec_Idle Try.f24 (codeOf Try.f24) [.val true cAgent false] [.val false (.one .bool) true] = fun a => spec_Idle a := by kernel_rfl
theorem m_spec_Idle : Meets Try.prog 24 F_spec_Idle := by
  have h := meets_of (ann := a_spec_Idle) (ps := [.val true cAgent false]) (rs := [.val false (.one .bool) true]) g_23 mixed Try.func24 (by kernel_rfl) (by kernel_rfl : Try.f24.body = some (codeOf Try.f24))
  rw [e_spec_Idle] at h
  exact h
noncomputable def fns_24 : List (FuncId × Fn) := (24, F_spec_Idle) :: fns_23
theorem g_24 : Good Try.prog ⟨tis, fns_24⟩ := g_23.cons m_spec_Idle
noncomputable def laws_toVec (a0 : Vec) : Option Vec :=
  some a0
noncomputable def F_laws_toVec : Fn := ⟨[.val true cVec false], [.val true cVec true], fun a => laws_toVec a⟩
def a_laws_toVec : List (Nat × LoopAnn) := []
theorem e_laws_toVec : fnDen ⟨tis, fns_24⟩ a_laws_toVec Try.f201 (codeOf Try.f201) [.val true cVec false] [.val true cVec true] = fun a => laws_toVec a := by kernel_rfl
theorem m_laws_toVec : Meets Try.prog 201 F_laws_toVec := by
  have h := meets_of (ann := a_laws_toVec) (ps := [.val true cVec false]) (rs := [.val true cVec true]) g_24 mixed Try.func201 (by kernel_rfl) (by kernel_rfl : Try.f201.body = some (codeOf Try.f201))
  rw [e_laws_toVec] at h
  exact h
noncomputable def fns_201 : List (FuncId × Fn) := (201, F_laws_toVec) :: fns_24
theorem g_201 : Good Try.prog ⟨tis, fns_201⟩ := g_24.cons m_laws_toVec
noncomputable def laws_toPt (a0 : Pt) : Option Pt :=
  (laws_toVec a0.2.2.2).bind fun t15 =>
  some (a0.1, a0.2.1, a0.2.2.1, t15.1, t15.2.1, t15.2.2.1, t15.2.2.2.1, t15.2.2.2.2)
noncomputable def F_laws_toPt : Fn := ⟨[.val true cPt false], [.val true cPt true], fun a => laws_toPt a⟩
def a_laws_toPt : List (Nat × LoopAnn) := []
theorem e_laws_toPt : fnDen ⟨tis, fns_201⟩ a_laws_toPt Try.f148 (codeOf Try.f148) [.val true cPt false] [.val true cPt true] = fun a => laws_toPt a := by kernel_rfl
theorem m_laws_toPt : Meets Try.prog 148 F_laws_toPt := by
  have h := meets_of (ann := a_laws_toPt) (ps := [.val true cPt false]) (rs := [.val true cPt true]) g_201 mixed Try.func148 (by kernel_rfl) (by kernel_rfl : Try.f148.body = some (codeOf Try.f148))
  rw [e_laws_toPt] at h
  exact h
noncomputable def fns_148 : List (FuncId × Fn) := (148, F_laws_toPt) :: fns_201
theorem g_148 : Good Try.prog ⟨tis, fns_148⟩ := g_201.cons m_laws_toPt
noncomputable def laws_toPtS_l0 (a0 : List Pt) (i4 : Int) (l : List Pt) : Option ((Int × List Pt) ⊕ (List Pt)) :=
  cond (decide (i4 < (a0.length : Int)))
    ((at? a0 i4).bind fun x18 =>
    (laws_toPt x18).bind fun t20 =>
    (ix l.length i4).bind fun j21 =>
    (l[j21]?).bind fun x =>
    some (.inl (w64 (i4 + 1), l.set j21 t20)))
    (some (.inr l))
noncomputable def laws_toPtS (a0 : List Pt) : Option (List Pt) :=
  (mkLen (a0.length : Int)).bind fun n =>
  (loop (fun z => laws_toPtS_l0 a0 z.1 z.2) (0, List.replicate n ((false, 0, false, 0, 0, 0, 0, 0) : Pt))).bind fun d =>
  some d
noncomputable def F_laws_toPtS : Fn := ⟨[.val false (.one (.sl cPt)) false], [.val false (.one (.sl cPt)) true], fun a => laws_toPtS a⟩
def a_laws_toPtS : List (Nat × LoopAnn) := [(0, ⟨⟨[(4, false, [.dat (.int .i64)])], [(265216, .keep cPt true)]⟩,
    ⟨[], [(265216, .keep cPt true)]⟩, none⟩)]
theorem e_laws_toPtS : fnDen ⟨tis, fns_148⟩ a_laws_toPtS Try.f76 (codeOf Try.f76) [.val false (.one (.sl cPt)) false] [.val false (.one (.sl cPt)) true] = fun a => laws_toPtS a := by kernel_rfl
theorem m_laws_toPtS : Meets Try.prog 76 F_laws_toPtS := by
  have h := meets_of (ann := a_laws_toPtS) (ps := [.val false (.one (.sl cPt)) false]) (rs := [.val false (.one (.sl cPt)) true]) g_148 mixed Try.func76 (by kernel_rfl) (by kernel_rfl : Try.f76.body = some (codeOf Try.f76))
  rw [e_laws_toPtS] at h
  exact h
noncomputable def fns_76 : List (FuncId × Fn) := (76, F_laws_toPtS) :: fns_148
theorem g_76 : Good Try.prog ⟨tis, fns_76⟩ := g_148.cons m_laws_toPtS
noncomputable def laws_toFent (a0 : Fent) : Option Fent :=
  some a0
noncomputable def F_laws_toFent : Fn := ⟨[.val true cFent false], [.val true cFent true], fun a => laws_toFent a⟩
def a_laws_toFent : List (Nat × LoopAnn) := []
theorem e_laws_toFent : fnDen ⟨tis, fns_76⟩ a_laws_toFent Try.f149 (codeOf Try.f149) [.val true cFent false] [.val true cFent true] = fun a => laws_toFent a := by kernel_rfl
theorem m_laws_toFent : Meets Try.prog 149 F_laws_toFent := by
  have h := meets_of (ann := a_laws_toFent) (ps := [.val true cFent false]) (rs := [.val true cFent true]) g_76 mixed Try.func149 (by kernel_rfl) (by kernel_rfl : Try.f149.body = some (codeOf Try.f149))
  rw [e_laws_toFent] at h
  exact h
noncomputable def fns_149 : List (FuncId × Fn) := (149, F_laws_toFent) :: fns_76
theorem g_149 : Good Try.prog ⟨tis, fns_149⟩ := g_76.cons m_laws_toFent
noncomputable def laws_toFentS_l0 (a0 : List Fent) (i4 : Int) (l : List Fent) : Option ((Int × List Fent) ⊕ (List Fent)) :=
  cond (decide (i4 < (a0.length : Int)))
    ((at? a0 i4).bind fun x18 =>
    (laws_toFent x18).bind fun t20 =>
    (ix l.length i4).bind fun j21 =>
    (l[j21]?).bind fun x =>
    some (.inl (w64 (i4 + 1), l.set j21 t20)))
    (some (.inr l))
noncomputable def laws_toFentS (a0 : List Fent) : Option (List Fent) :=
  (mkLen (a0.length : Int)).bind fun n =>
  (loop (fun z => laws_toFentS_l0 a0 z.1 z.2) (0, List.replicate n ((0, 0, 0, 0, false) : Fent))).bind fun d =>
  some d
noncomputable def F_laws_toFentS : Fn := ⟨[.val false (.one (.sl cFent)) false], [.val false (.one (.sl cFent)) true], fun a => laws_toFentS a⟩
def a_laws_toFentS : List (Nat × LoopAnn) := [(0, ⟨⟨[(4, false, [.dat (.int .i64)])], [(265216, .keep cFent true)]⟩,
    ⟨[], [(265216, .keep cFent true)]⟩, none⟩)]
theorem e_laws_toFentS : fnDen ⟨tis, fns_149⟩ a_laws_toFentS Try.f77 (codeOf Try.f77) [.val false (.one (.sl cFent)) false] [.val false (.one (.sl cFent)) true] = fun a => laws_toFentS a := by kernel_rfl
theorem m_laws_toFentS : Meets Try.prog 77 F_laws_toFentS := by
  have h := meets_of (ann := a_laws_toFentS) (ps := [.val false (.one (.sl cFent)) false]) (rs := [.val false (.one (.sl cFent)) true]) g_149 mixed Try.func77 (by kernel_rfl) (by kernel_rfl : Try.f77.body = some (codeOf Try.f77))
  rw [e_laws_toFentS] at h
  exact h
noncomputable def fns_77 : List (FuncId × Fn) := (77, F_laws_toFentS) :: fns_149
theorem g_77 : Good Try.prog ⟨tis, fns_77⟩ := g_149.cons m_laws_toFentS
noncomputable def laws_toVrow (a0 : Vrow) : Option Vrow :=
  some a0
noncomputable def F_laws_toVrow : Fn := ⟨[.val true cVrow false], [.val true cVrow true], fun a => laws_toVrow a⟩
def a_laws_toVrow : List (Nat × LoopAnn) := []
theorem e_laws_toVrow : fnDen ⟨tis, fns_77⟩ a_laws_toVrow Try.f202 (codeOf Try.f202) [.val true cVrow false] [.val true cVrow true] = fun a => laws_toVrow a := by kernel_rfl
theorem m_laws_toVrow : Meets Try.prog 202 F_laws_toVrow := by
  have h := meets_of (ann := a_laws_toVrow) (ps := [.val true cVrow false]) (rs := [.val true cVrow true]) g_77 mixed Try.func202 (by kernel_rfl) (by kernel_rfl : Try.f202.body = some (codeOf Try.f202))
  rw [e_laws_toVrow] at h
  exact h
noncomputable def fns_202 : List (FuncId × Fn) := (202, F_laws_toVrow) :: fns_77
theorem g_202 : Good Try.prog ⟨tis, fns_202⟩ := g_77.cons m_laws_toVrow
noncomputable def laws_toVrowS_l0 (a0 : List Vrow) (i4 : Int) (l : List Vrow) : Option ((Int × List Vrow) ⊕ (List Vrow)) :=
  cond (decide (i4 < (a0.length : Int)))
    ((at? a0 i4).bind fun x18 =>
    (laws_toVrow x18).bind fun t20 =>
    (ix l.length i4).bind fun j21 =>
    (l[j21]?).bind fun x =>
    some (.inl (w64 (i4 + 1), l.set j21 t20)))
    (some (.inr l))
noncomputable def laws_toVrowS (a0 : List Vrow) : Option (List Vrow) :=
  (mkLen (a0.length : Int)).bind fun n =>
  (loop (fun z => laws_toVrowS_l0 a0 z.1 z.2) (0, List.replicate n ((0, 0, 0) : Vrow))).bind fun d =>
  some d
noncomputable def F_laws_toVrowS : Fn := ⟨[.val false (.one (.sl cVrow)) false], [.val false (.one (.sl cVrow)) true], fun a => laws_toVrowS a⟩
def a_laws_toVrowS : List (Nat × LoopAnn) := [(0, ⟨⟨[(4, false, [.dat (.int .i64)])], [(265216, .keep cVrow true)]⟩,
    ⟨[], [(265216, .keep cVrow true)]⟩, none⟩)]
theorem e_laws_toVrowS : fnDen ⟨tis, fns_202⟩ a_laws_toVrowS Try.f150 (codeOf Try.f150) [.val false (.one (.sl cVrow)) false] [.val false (.one (.sl cVrow)) true] = fun a => laws_toVrowS a := by kernel_rfl
theorem m_laws_toVrowS : Meets Try.prog 150 F_laws_toVrowS := by
  have h := meets_of (ann := a_laws_toVrowS) (ps := [.val false (.one (.sl cVrow)) false]) (rs := [.val false (.one (.sl cVrow)) true]) g_202 mixed Try.func150 (by kernel_rfl) (by kernel_rfl : Try.f150.body = some (codeOf Try.f150))
  rw [e_laws_toVrowS] at h
  exact h
noncomputable def fns_150 : List (FuncId × Fn) := (150, F_laws_toVrowS) :: fns_202
theorem g_150 : Good Try.prog ⟨tis, fns_150⟩ := g_202.cons m_laws_toVrowS
noncomputable def laws_toIntS_l0 (a0 : List Int) (i4 : Int) (l : List Int) : Option ((Int × List Int) ⊕ (List Int)) :=
  cond (decide (i4 < (a0.length : Int)))
    ((at? a0 i4).bind fun x18 =>
    (ix l.length i4).bind fun j20 =>
    (l[j20]?).bind fun x =>
    some (.inl (w64 (i4 + 1), l.set j20 x18)))
    (some (.inr l))
noncomputable def laws_toIntS (a0 : List Int) : Option (List Int) :=
  (mkLen (a0.length : Int)).bind fun n =>
  (loop (fun z => laws_toIntS_l0 a0 z.1 z.2) (0, List.replicate n (0 : Int))).bind fun d =>
  some d
noncomputable def F_laws_toIntS : Fn := ⟨[.val false (.one (.sl (.one (.int .i64)))) false], [.val false (.one (.sl (.one (.int .i64)))) true], fun a => laws_toIntS a⟩
def a_laws_toIntS : List (Nat × LoopAnn) := [(0, ⟨⟨[(4, false, [.dat (.int .i64)])], [(265216, .keep (.one (.int .i64)) true)]⟩,
    ⟨[], [(265216, .keep (.one (.int .i64)) true)]⟩, none⟩)]
theorem e_laws_toIntS : fnDen ⟨tis, fns_150⟩ a_laws_toIntS Try.f151 (codeOf Try.f151) [.val false (.one (.sl (.one (.int .i64)))) false] [.val false (.one (.sl (.one (.int .i64)))) true] = fun a => laws_toIntS a := by kernel_rfl
theorem m_laws_toIntS : Meets Try.prog 151 F_laws_toIntS := by
  have h := meets_of (ann := a_laws_toIntS) (ps := [.val false (.one (.sl (.one (.int .i64)))) false]) (rs := [.val false (.one (.sl (.one (.int .i64)))) true]) g_150 mixed Try.func151 (by kernel_rfl) (by kernel_rfl : Try.f151.body = some (codeOf Try.f151))
  rw [e_laws_toIntS] at h
  exact h
noncomputable def fns_151 : List (FuncId × Fn) := (151, F_laws_toIntS) :: fns_150
theorem g_151 : Good Try.prog ⟨tis, fns_151⟩ := g_150.cons m_laws_toIntS
noncomputable def laws_toVtab (a0 : Vtab) : Option Vtab :=
  (laws_toVrowS a0.1).bind fun t6 =>
  (laws_toIntS a0.2).bind fun t10 =>
  some (t6, t10)
noncomputable def F_laws_toVtab : Fn := ⟨[.val true cVtab false], [.val true cVtab true], fun a => laws_toVtab a⟩
def a_laws_toVtab : List (Nat × LoopAnn) := []
theorem e_laws_toVtab : fnDen ⟨tis, fns_151⟩ a_laws_toVtab Try.f78 (codeOf Try.f78) [.val true cVtab false] [.val true cVtab true] = fun a => laws_toVtab a := by kernel_rfl
theorem m_laws_toVtab : Meets Try.prog 78 F_laws_toVtab := by
  have h := meets_of (ann := a_laws_toVtab) (ps := [.val true cVtab false]) (rs := [.val true cVtab true]) g_151 mixed Try.func78 (by kernel_rfl) (by kernel_rfl : Try.f78.body = some (codeOf Try.f78))
  rw [e_laws_toVtab] at h
  exact h
noncomputable def fns_78 : List (FuncId × Fn) := (78, F_laws_toVtab) :: fns_151
theorem g_78 : Good Try.prog ⟨tis, fns_78⟩ := g_151.cons m_laws_toVtab
noncomputable def laws_toBridge (a0 : Bridge) : Option Bridge :=
  (laws_toPtS a0.2.2.1).bind fun t12 =>
  (laws_toFentS a0.2.2.2.1).bind fun t16 =>
  (laws_toVtab (a0.2.2.2.2.1, a0.2.2.2.2.2.1)).bind fun t20 =>
  some (a0.1, a0.2.1, t12, t16, t20.1, t20.2, a0.2.2.2.2.2.2.1, a0.2.2.2.2.2.2.2.1, a0.2.2.2.2.2.2.2.2.1, a0.2.2.2.2.2.2.2.2.2.1, a0.2.2.2.2.2.2.2.2.2.2)
noncomputable def F_laws_toBridge : Fn := ⟨[.val true cBridge false], [.val true cBridge true], fun a => laws_toBridge a⟩
def a_laws_toBridge : List (Nat × LoopAnn) := []
theorem e_laws_toBridge : fnDen ⟨tis, fns_78⟩ a_laws_toBridge Try.f20 (codeOf Try.f20) [.val true cBridge false] [.val true cBridge true] = fun a => laws_toBridge a := by kernel_rfl
theorem m_laws_toBridge : Meets Try.prog 20 F_laws_toBridge := by
  have h := meets_of (ann := a_laws_toBridge) (ps := [.val true cBridge false]) (rs := [.val true cBridge true]) g_78 mixed Try.func20 (by kernel_rfl) (by kernel_rfl : Try.f20.body = some (codeOf Try.f20))
  rw [e_laws_toBridge] at h
  exact h
noncomputable def fns_20 : List (FuncId × Fn) := (20, F_laws_toBridge) :: fns_78
theorem g_20 : Good Try.prog ⟨tis, fns_20⟩ := g_78.cons m_laws_toBridge
noncomputable def laws_toByteS_l0 (a0 : List Int) (i4 : Int) (l : List Int) : Option ((Int × List Int) ⊕ (List Int)) :=
  cond (decide (i4 < (a0.length : Int)))
    ((at? a0 i4).bind fun x18 =>
    (ix l.length i4).bind fun j20 =>
    (l[j20]?).bind fun x =>
    some (.inl (w64 (i4 + 1), l.set j20 x18)))
    (some (.inr l))
noncomputable def laws_toByteS (a0 : List Int) : Option (List Int) :=
  (mkLen (a0.length : Int)).bind fun n =>
  (loop (fun z => laws_toByteS_l0 a0 z.1 z.2) (0, List.replicate n (0 : Int))).bind fun d =>
  some d
noncomputable def F_laws_toByteS : Fn := ⟨[.val false (.one (.sl (.one (.int .u8)))) false], [.val false (.one (.sl (.one (.int .u8)))) true], fun a => laws_toByteS a⟩
def a_laws_toByteS : List (Nat × LoopAnn) := [(0, ⟨⟨[(4, false, [.dat (.int .i64)])], [(265216, .keep (.one (.int .u8)) true)]⟩,
    ⟨[], [(265216, .keep (.one (.int .u8)) true)]⟩, none⟩)]
theorem e_laws_toByteS : fnDen ⟨tis, fns_20⟩ a_laws_toByteS Try.f210 (codeOf Try.f210) [.val false (.one (.sl (.one (.int .u8)))) false] [.val false (.one (.sl (.one (.int .u8)))) true] = fun a => laws_toByteS a := by kernel_rfl
theorem m_laws_toByteS : Meets Try.prog 210 F_laws_toByteS := by
  have h := meets_of (ann := a_laws_toByteS) (ps := [.val false (.one (.sl (.one (.int .u8)))) false]) (rs := [.val false (.one (.sl (.one (.int .u8)))) true]) g_20 mixed Try.func210 (by kernel_rfl) (by kernel_rfl : Try.f210.body = some (codeOf Try.f210))
  rw [e_laws_toByteS] at h
  exact h
noncomputable def fns_210 : List (FuncId × Fn) := (210, F_laws_toByteS) :: fns_20
theorem g_210 : Good Try.prog ⟨tis, fns_210⟩ := g_20.cons m_laws_toByteS
noncomputable def laws_toVal (a0 : Val) : Option Val :=
  (laws_toIntS a0.2.2.2).bind fun t15 =>
  some (a0.1, a0.2.1, a0.2.2.1, t15)
noncomputable def F_laws_toVal : Fn := ⟨[.val true cVal false], [.val true cVal true], fun a => laws_toVal a⟩
def a_laws_toVal : List (Nat × LoopAnn) := []
theorem e_laws_toVal : fnDen ⟨tis, fns_210⟩ a_laws_toVal Try.f245 (codeOf Try.f245) [.val true cVal false] [.val true cVal true] = fun a => laws_toVal a := by kernel_rfl
theorem m_laws_toVal : Meets Try.prog 245 F_laws_toVal := by
  have h := meets_of (ann := a_laws_toVal) (ps := [.val true cVal false]) (rs := [.val true cVal true]) g_210 mixed Try.func245 (by kernel_rfl) (by kernel_rfl : Try.f245.body = some (codeOf Try.f245))
  rw [e_laws_toVal] at h
  exact h
noncomputable def fns_245 : List (FuncId × Fn) := (245, F_laws_toVal) :: fns_210
theorem g_245 : Good Try.prog ⟨tis, fns_245⟩ := g_210.cons m_laws_toVal
noncomputable def laws_toBind (a0 : Bind) : Option Bind :=
  (laws_toIntS a0.1).bind fun t6 =>
  (laws_toVal a0.2).bind fun t10 =>
  some (t6, t10.1, t10.2.1, t10.2.2.1, t10.2.2.2)
noncomputable def F_laws_toBind : Fn := ⟨[.val true cBind false], [.val true cBind true], fun a => laws_toBind a⟩
def a_laws_toBind : List (Nat × LoopAnn) := []
theorem e_laws_toBind : fnDen ⟨tis, fns_245⟩ a_laws_toBind Try.f242 (codeOf Try.f242) [.val true cBind false] [.val true cBind true] = fun a => laws_toBind a := by kernel_rfl
theorem m_laws_toBind : Meets Try.prog 242 F_laws_toBind := by
  have h := meets_of (ann := a_laws_toBind) (ps := [.val true cBind false]) (rs := [.val true cBind true]) g_245 mixed Try.func242 (by kernel_rfl) (by kernel_rfl : Try.f242.body = some (codeOf Try.f242))
  rw [e_laws_toBind] at h
  exact h
noncomputable def fns_242 : List (FuncId × Fn) := (242, F_laws_toBind) :: fns_245
theorem g_242 : Good Try.prog ⟨tis, fns_242⟩ := g_245.cons m_laws_toBind
noncomputable def laws_toBindS_l0 (a0 : List Bind) (i4 : Int) (l : List Bind) : Option ((Int × List Bind) ⊕ (List Bind)) :=
  cond (decide (i4 < (a0.length : Int)))
    ((at? a0 i4).bind fun x18 =>
    (laws_toBind x18).bind fun t20 =>
    (ix l.length i4).bind fun j21 =>
    (l[j21]?).bind fun x =>
    some (.inl (w64 (i4 + 1), l.set j21 t20)))
    (some (.inr l))
noncomputable def laws_toBindS (a0 : List Bind) : Option (List Bind) :=
  (mkLen (a0.length : Int)).bind fun n =>
  (loop (fun z => laws_toBindS_l0 a0 z.1 z.2) (0, List.replicate n (([], 0, 0, [], []) : Bind))).bind fun d =>
  some d
noncomputable def F_laws_toBindS : Fn := ⟨[.val false (.one (.sl cBind)) false], [.val false (.one (.sl cBind)) true], fun a => laws_toBindS a⟩
def a_laws_toBindS : List (Nat × LoopAnn) := [(0, ⟨⟨[(4, false, [.dat (.int .i64)])], [(265216, .keep cBind true)]⟩,
    ⟨[], [(265216, .keep cBind true)]⟩, none⟩)]
theorem e_laws_toBindS : fnDen ⟨tis, fns_242⟩ a_laws_toBindS Try.f236 (codeOf Try.f236) [.val false (.one (.sl cBind)) false] [.val false (.one (.sl cBind)) true] = fun a => laws_toBindS a := by kernel_rfl
theorem m_laws_toBindS : Meets Try.prog 236 F_laws_toBindS := by
  have h := meets_of (ann := a_laws_toBindS) (ps := [.val false (.one (.sl cBind)) false]) (rs := [.val false (.one (.sl cBind)) true]) g_242 mixed Try.func236 (by kernel_rfl) (by kernel_rfl : Try.f236.body = some (codeOf Try.f236))
  rw [e_laws_toBindS] at h
  exact h
noncomputable def fns_236 : List (FuncId × Fn) := (236, F_laws_toBindS) :: fns_242
theorem g_236 : Good Try.prog ⟨tis, fns_236⟩ := g_242.cons m_laws_toBindS
noncomputable def laws_toPdu (a0 : Pdu) : Option Pdu :=
  (laws_toBindS a0.2.2.2.2).bind fun t18 =>
  some (a0.1, a0.2.1, a0.2.2.1, a0.2.2.2.1, t18)
noncomputable def F_laws_toPdu : Fn := ⟨[.val true cPdu false], [.val true cPdu true], fun a => laws_toPdu a⟩
def a_laws_toPdu : List (Nat × LoopAnn) := []
theorem e_laws_toPdu : fnDen ⟨tis, fns_236⟩ a_laws_toPdu Try.f211 (codeOf Try.f211) [.val true cPdu false] [.val true cPdu true] = fun a => laws_toPdu a := by kernel_rfl
theorem m_laws_toPdu : Meets Try.prog 211 F_laws_toPdu := by
  have h := meets_of (ann := a_laws_toPdu) (ps := [.val true cPdu false]) (rs := [.val true cPdu true]) g_236 mixed Try.func211 (by kernel_rfl) (by kernel_rfl : Try.f211.body = some (codeOf Try.f211))
  rw [e_laws_toPdu] at h
  exact h
noncomputable def fns_211 : List (FuncId × Fn) := (211, F_laws_toPdu) :: fns_236
theorem g_211 : Good Try.prog ⟨tis, fns_211⟩ := g_236.cons m_laws_toPdu
noncomputable def laws_toJob (a0 : Job) : Option Job :=
  (laws_toByteS a0.2.1).bind fun t9 =>
  (laws_toPdu (a0.2.2.2.1, a0.2.2.2.2.1, a0.2.2.2.2.2.1, a0.2.2.2.2.2.2.1, a0.2.2.2.2.2.2.2.1)).bind fun t16 =>
  (laws_toBridge (a0.2.2.2.2.2.2.2.2.1, a0.2.2.2.2.2.2.2.2.2.1, a0.2.2.2.2.2.2.2.2.2.2.1, a0.2.2.2.2.2.2.2.2.2.2.2.1, a0.2.2.2.2.2.2.2.2.2.2.2.2.1, a0.2.2.2.2.2.2.2.2.2.2.2.2.2.1, a0.2.2.2.2.2.2.2.2.2.2.2.2.2.2.1, a0.2.2.2.2.2.2.2.2.2.2.2.2.2.2.2.1, a0.2.2.2.2.2.2.2.2.2.2.2.2.2.2.2.2.1, a0.2.2.2.2.2.2.2.2.2.2.2.2.2.2.2.2.2.1, a0.2.2.2.2.2.2.2.2.2.2.2.2.2.2.2.2.2.2.1)).bind fun t20 =>
  some (a0.1, t9, a0.2.2.1, t16.1, t16.2.1, t16.2.2.1, t16.2.2.2.1, t16.2.2.2.2, t20.1, t20.2.1, t20.2.2.1, t20.2.2.2.1, t20.2.2.2.2.1, t20.2.2.2.2.2.1, t20.2.2.2.2.2.2.1, t20.2.2.2.2.2.2.2.1, t20.2.2.2.2.2.2.2.2.1, t20.2.2.2.2.2.2.2.2.2.1, t20.2.2.2.2.2.2.2.2.2.2, a0.2.2.2.2.2.2.2.2.2.2.2.2.2.2.2.2.2.2.2.1, a0.2.2.2.2.2.2.2.2.2.2.2.2.2.2.2.2.2.2.2.2)
noncomputable def F_laws_toJob : Fn := ⟨[.val true cJob false], [.val true cJob true], fun a => laws_toJob a⟩
def a_laws_toJob : List (Nat × LoopAnn) := []
theorem e_laws_toJob : fnDen ⟨tis, fns_211⟩ a_laws_toJob Try.f163 (codeOf Try.f163) [.val true cJob false] [.val true cJob true] = fun a => laws_toJob a := by kernel_rfl
theorem m_laws_toJob : Meets Try.prog 163 F_laws_toJob := by
  have h := meets_of (ann := a_laws_toJob) (ps := [.val true cJob false]) (rs := [.val true cJob true]) g_211 mixed Try.func163 (by kernel_rfl) (by kernel_rfl : Try.f163.body = some (codeOf Try.f163))
  rw [e_laws_toJob] at h
  exact h
noncomputable def fns_163 : List (FuncId × Fn) := (163, F_laws_toJob) :: fns_211
theorem g_163 : Good Try.prog ⟨tis, fns_163⟩ := g_211.cons m_laws_toJob
noncomputable def laws_toJobS_l0 (a0 : List Job) (i4 : Int) (l : List Job) : Option ((Int × List Job) ⊕ (List Job)) :=
  cond (decide (i4 < (a0.length : Int)))
    ((at? a0 i4).bind fun x18 =>
    (laws_toJob x18).bind fun t20 =>
    (ix l.length i4).bind fun j21 =>
    (l[j21]?).bind fun x =>
    some (.inl (w64 (i4 + 1), l.set j21 t20)))
    (some (.inr l))
noncomputable def laws_toJobS (a0 : List Job) : Option (List Job) :=
  (mkLen (a0.length : Int)).bind fun n =>
  (loop (fun z => laws_toJobS_l0 a0 z.1 z.2) (0, List.replicate n ((0, [], 0, 0, 0, 0, 0, [], 0, [], [], [], [], [], 0, 0, 0, 0, 0, 0, 0) : Job))).bind fun d =>
  some d
noncomputable def F_laws_toJobS : Fn := ⟨[.val false (.one (.sl cJob)) false], [.val false (.one (.sl cJob)) true], fun a => laws_toJobS a⟩
def a_laws_toJobS : List (Nat × LoopAnn) := [(0, ⟨⟨[(4, false, [.dat (.int .i64)])], [(265216, .keep cJob true)]⟩,
    ⟨[], [(265216, .keep cJob true)]⟩, none⟩)]
theorem e_laws_toJobS : fnDen ⟨tis, fns_163⟩ a_laws_toJobS Try.f85 (codeOf Try.f85) [.val false (.one (.sl cJob)) false] [.val false (.one (.sl cJob)) true] = fun a => laws_toJobS a := by kernel_rfl
theorem m_laws_toJobS : Meets Try.prog 85 F_laws_toJobS := by
  have h := meets_of (ann := a_laws_toJobS) (ps := [.val false (.one (.sl cJob)) false]) (rs := [.val false (.one (.sl cJob)) true]) g_163 mixed Try.func85 (by kernel_rfl) (by kernel_rfl : Try.f85.body = some (codeOf Try.f85))
  rw [e_laws_toJobS] at h
  exact h
noncomputable def fns_85 : List (FuncId × Fn) := (85, F_laws_toJobS) :: fns_163
theorem g_85 : Good Try.prog ⟨tis, fns_85⟩ := g_163.cons m_laws_toJobS
noncomputable def laws_toAgent (a0 : Agent) : Option Agent :=
  (laws_toBridge (a0.1, a0.2.1, a0.2.2.1, a0.2.2.2.1, a0.2.2.2.2.1, a0.2.2.2.2.2.1, a0.2.2.2.2.2.2.1, a0.2.2.2.2.2.2.2.1, a0.2.2.2.2.2.2.2.2.1, a0.2.2.2.2.2.2.2.2.2.1, a0.2.2.2.2.2.2.2.2.2.2.1)).bind fun t6 =>
  (laws_toJobS a0.2.2.2.2.2.2.2.2.2.2.2.2.1).bind fun t13 =>
  some (t6.1, t6.2.1, t6.2.2.1, t6.2.2.2.1, t6.2.2.2.2.1, t6.2.2.2.2.2.1, t6.2.2.2.2.2.2.1, t6.2.2.2.2.2.2.2.1, t6.2.2.2.2.2.2.2.2.1, t6.2.2.2.2.2.2.2.2.2.1, t6.2.2.2.2.2.2.2.2.2.2, a0.2.2.2.2.2.2.2.2.2.2.2.1, t13, a0.2.2.2.2.2.2.2.2.2.2.2.2.2.1, a0.2.2.2.2.2.2.2.2.2.2.2.2.2.2)
noncomputable def F_laws_toAgent : Fn := ⟨[.val true cAgent false], [.val true cAgent true], fun a => laws_toAgent a⟩
def a_laws_toAgent : List (Nat × LoopAnn) := []
theorem e_laws_toAgent : fnDen ⟨tis, fns_85⟩ a_laws_toAgent Try.f25 (codeOf Try.f25) [.val true cAgent false] [.val true cAgent true] = fun a => laws_toAgent a := by kernel_rfl
theorem m_laws_toAgent : Meets Try.prog 25 F_laws_toAgent := by
  have h := meets_of (ann := a_laws_toAgent) (ps := [.val true cAgent false]) (rs := [.val true cAgent true]) g_85 mixed Try.func25 (by kernel_rfl) (by kernel_rfl : Try.f25.body = some (codeOf Try.f25))
  rw [e_laws_toAgent] at h
  exact h
noncomputable def fns_25 : List (FuncId × Fn) := (25, F_laws_toAgent) :: fns_85
theorem g_25 : Good Try.prog ⟨tis, fns_25⟩ := g_85.cons m_laws_toAgent
noncomputable def impl_Idle (a0 : Agent) : Option Bool :=
  let t2 := (a0.2.2.2.2.2.2.2.2.2.2.2.2.1.length : Int) == 0
  some t2
noncomputable def F_impl_Idle : Fn := ⟨[.val true cAgent false], [.val false (.one .bool) true], fun a => impl_Idle a⟩
def a_impl_Idle : List (Nat × LoopAnn) := []
theorem e_impl_Idle : fnDen ⟨tis, fns_25⟩ a_impl_Idle Try.f26 (codeOf Try.f26) [.val true cAgent false] [.val false (.one .bool) true] = fun a => impl_Idle a := by kernel_rfl
theorem m_impl_Idle : Meets Try.prog 26 F_impl_Idle := by
  have h := meets_of (ann := a_impl_Idle) (ps := [.val true cAgent false]) (rs := [.val false (.one .bool) true]) g_25 mixed Try.func26 (by kernel_rfl) (by kernel_rfl : Try.f26.body = some (codeOf Try.f26))
  rw [e_impl_Idle] at h
  exact h
noncomputable def fns_26 : List (FuncId × Fn) := (26, F_impl_Idle) :: fns_25
theorem g_26 : Good Try.prog ⟨tis, fns_26⟩ := g_25.cons m_impl_Idle
noncomputable def laws_eqVec (a0 : Vec) (b1 : Vec) : Option Bool :=
  cond (a0.1 != b1.1)
    (some false)
    (cond (a0.2.1 != b1.2.1)
      (some false)
      (cond (a0.2.2.1 != b1.2.2.1)
        (some false)
        (cond (a0.2.2.2.1 != b1.2.2.2.1)
          (some false)
          (cond (a0.2.2.2.2 != b1.2.2.2.2) (some false) (some true)))))
noncomputable def F_laws_eqVec : Fn := ⟨[.val true cVec false, .val true cVec false], [.val false (.one .bool) true], fun a => laws_eqVec a.1 a.2⟩
def a_laws_eqVec : List (Nat × LoopAnn) := []
theorem e_laws_eqVec : fnDen ⟨tis, fns_26⟩ a_laws_eqVec Try.f206 (codeOf Try.f206) [.val true cVec false, .val true cVec false] [.val false (.one .bool) true] = fun a => laws_eqVec a.1 a.2 := by kernel_rfl
theorem m_laws_eqVec : Meets Try.prog 206 F_laws_eqVec := by
  have h := meets_of (ann := a_laws_eqVec) (ps := [.val true cVec false, .val true cVec false]) (rs := [.val false (.one .bool) true]) g_26 mixed Try.func206 (by kernel_rfl) (by kernel_rfl : Try.f206.body = some (codeOf Try.f206))
  rw [e_laws_eqVec] at h
  exact h
noncomputable def fns_206 : List (FuncId × Fn) := (206, F_laws_eqVec) :: fns_26
theorem g_206 : Good Try.prog ⟨tis, fns_206⟩ := g_26.cons m_laws_eqVec
noncomputable def laws_eqPt (a0 : Pt) (b1 : Pt) : Option Bool :=
  cond (!(a0.1 == b1.1))
    (some false)
    (cond (a0.2.1 != b1.2.1)
      (some false)
      (cond (!(a0.2.2.1 == b1.2.2.1))
        (some false)
        ((laws_eqVec a0.2.2.2 b1.2.2.2).bind fun t24 =>
        cond (!t24) (some false) (some true))))
noncomputable def F_laws_eqPt : Fn := ⟨[.val true cPt false, .val true cPt false], [.val false (.one .bool) true], fun a => laws_eqPt a.1 a.2⟩
def a_laws_eqPt : List (Nat × LoopAnn) := []
theorem e_laws_eqPt : fnDen ⟨tis, fns_206⟩ a_laws_eqPt Try.f158 (codeOf Try.f158) [.val true cPt false, .val true cPt false] [.val false (.one .bool) true] = fun a => laws_eqPt a.1 a.2 := by kernel_rfl
theorem m_laws_eqPt : Meets Try.prog 158 F_laws_eqPt := by
  have h := meets_of (ann := a_laws_eqPt) (ps := [.val true cPt false, .val true cPt false]) (rs := [.val false (.one .bool) true]) g_206 mixed Try.func158 (by kernel_rfl) (by kernel_rfl : Try.f158.body = some (codeOf Try.f158))
  rw [e_laws_eqPt] at h
  exact h
noncomputable def fns_158 : List (FuncId × Fn) := (158, F_laws_eqPt) :: fns_206
theorem g_158 : Good Try.prog ⟨tis, fns_158⟩ := g_206.cons m_laws_eqPt
noncomputable def laws_eqPtS_l0 (a0 : List Pt) (b1 : List Pt) (i5 : Int) : Option (Int ⊕ (Unit ⊕ Bool)) :=
  cond (decide (i5 < (a0.length : Int)))
    ((at? a0 i5).bind fun x19 =>
    (at? b1 i5).bind fun x23 =>
    (laws_eqPt x19 x23).bind fun t25 =>
    cond (!t25) (some (.inr (.inr false))) (some (.inl (w64 (i5 + 1)))))
    (some (.inr (.inl ())))
noncomputable def laws_eqPtS (a0 : List Pt) (b1 : List Pt) : Option Bool :=
  cond ((a0.length : Int) != (b1.length : Int))
    (some false)
    ((loop (fun z => laws_eqPtS_l0 a0 b1 z) 0).bind (Sum.elim (fun d =>
      some true) (fun r => some r)))
noncomputable def F_laws_eqPtS : Fn := ⟨[.val false (.one (.sl cPt)) false, .val false (.one (.sl cPt)) false], [.val false (.one .bool) true], fun a => laws_eqPtS a.1 a.2⟩
def a_laws_eqPtS : List (Nat × LoopAnn) := [(0, ⟨⟨[(5, false, [.dat (.int .i64)])], []⟩,
    ⟨[], []⟩, some ⟨[(4, false, [.dat .bool])], []⟩⟩)]
theorem e_laws_eqPtS : fnDen ⟨tis, fns_158⟩ a_laws_eqPtS Try.f81 (codeOf Try.f81) [.val false (.one (.sl cPt)) false, .val false (.one (.sl cPt)) false] [.val false (.one .bool) true] = fun a => laws_eqPtS a.1 a.2 := by kernel_rfl
theorem m_laws_eqPtS : Meets Try.prog 81 F_laws_eqPtS := by
  have h := meets_of (ann := a_laws_eqPtS) (ps := [.val false (.one (.sl cPt)) false, .val false (.one (.sl cPt)) false]) (rs := [.val false (.one .bool) true]) g_158 mixed Try.func81 (by kernel_rfl) (by kernel_rfl : Try.f81.body = some (codeOf Try.f81))
  rw [e_laws_eqPtS] at h
  exact h
noncomputable def fns_81 : List (FuncId × Fn) := (81, F_laws_eqPtS) :: fns_158
theorem g_81 : Good Try.prog ⟨tis, fns_81⟩ := g_158.cons m_laws_eqPtS
noncomputable def laws_eqFent (a0 : Fent) (b1 : Fent) : Option Bool :=
  cond (a0.1 != b1.1)
    (some false)
    (cond (a0.2.1 != b1.2.1)
      (some false)
      (cond (a0.2.2.1 != b1.2.2.1)
        (some false)
        (cond (a0.2.2.2.1 != b1.2.2.2.1)
          (some false)
          (cond (!(a0.2.2.2.2 == b1.2.2.2.2)) (some false) (some true)))))
noncomputable def F_laws_eqFent : Fn := ⟨[.val true cFent false, .val true cFent false], [.val false (.one .bool) true], fun a => laws_eqFent a.1 a.2⟩
def a_laws_eqFent : List (Nat × LoopAnn) := []
theorem e_laws_eqFent : fnDen ⟨tis, fns_81⟩ a_laws_eqFent Try.f159 (codeOf Try.f159) [.val true cFent false, .val true cFent false] [.val false (.one .bool) true] = fun a => laws_eqFent a.1 a.2 := by kernel_rfl
theorem m_laws_eqFent : Meets Try.prog 159 F_laws_eqFent := by
  have h := meets_of (ann := a_laws_eqFent) (ps := [.val true cFent false, .val true cFent false]) (rs := [.val false (.one .bool) true]) g_81 mixed Try.func159 (by kernel_rfl) (by kernel_rfl : Try.f159.body = some (codeOf Try.f159))
  rw [e_laws_eqFent] at h
  exact h
noncomputable def fns_159 : List (FuncId × Fn) := (159, F_laws_eqFent) :: fns_81
theorem g_159 : Good Try.prog ⟨tis, fns_159⟩ := g_81.cons m_laws_eqFent
noncomputable def laws_eqFentS_l0 (a0 : List Fent) (b1 : List Fent) (i5 : Int) : Option (Int ⊕ (Unit ⊕ Bool)) :=
  cond (decide (i5 < (a0.length : Int)))
    ((at? a0 i5).bind fun x19 =>
    (at? b1 i5).bind fun x23 =>
    (laws_eqFent x19 x23).bind fun t25 =>
    cond (!t25) (some (.inr (.inr false))) (some (.inl (w64 (i5 + 1)))))
    (some (.inr (.inl ())))
noncomputable def laws_eqFentS (a0 : List Fent) (b1 : List Fent) : Option Bool :=
  cond ((a0.length : Int) != (b1.length : Int))
    (some false)
    ((loop (fun z => laws_eqFentS_l0 a0 b1 z) 0).bind (Sum.elim (fun d =>
      some true) (fun r => some r)))
noncomputable def F_laws_eqFentS : Fn := ⟨[.val false (.one (.sl cFent)) false, .val false (.one (.sl cFent)) false], [.val false (.one .bool) true], fun a => laws_eqFentS a.1 a.2⟩
def a_laws_eqFentS : List (Nat × LoopAnn) := [(0, ⟨⟨[(5, false, [.dat (.int .i64)])], []⟩,
    ⟨[], []⟩, some ⟨[(4, false, [.dat .bool])], []⟩⟩)]
theorem e_laws_eqFentS : fnDen ⟨tis, fns_159⟩ a_laws_eqFentS Try.f82 (codeOf Try.f82) [.val false (.one (.sl cFent)) false, .val false (.one (.sl cFent)) false] [.val false (.one .bool) true] = fun a => laws_eqFentS a.1 a.2 := by kernel_rfl
theorem m_laws_eqFentS : Meets Try.prog 82 F_laws_eqFentS := by
  have h := meets_of (ann := a_laws_eqFentS) (ps := [.val false (.one (.sl cFent)) false, .val false (.one (.sl cFent)) false]) (rs := [.val false (.one .bool) true]) g_159 mixed Try.func82 (by kernel_rfl) (by kernel_rfl : Try.f82.body = some (codeOf Try.f82))
  rw [e_laws_eqFentS] at h
  exact h
noncomputable def fns_82 : List (FuncId × Fn) := (82, F_laws_eqFentS) :: fns_159
theorem g_82 : Good Try.prog ⟨tis, fns_82⟩ := g_159.cons m_laws_eqFentS
noncomputable def laws_eqVrow (a0 : Vrow) (b1 : Vrow) : Option Bool :=
  cond (a0.1 != b1.1)
    (some false)
    (cond (a0.2.1 != b1.2.1) (some false) (cond (a0.2.2 != b1.2.2) (some false) (some true)))
noncomputable def F_laws_eqVrow : Fn := ⟨[.val true cVrow false, .val true cVrow false], [.val false (.one .bool) true], fun a => laws_eqVrow a.1 a.2⟩
def a_laws_eqVrow : List (Nat × LoopAnn) := []
theorem e_laws_eqVrow : fnDen ⟨tis, fns_82⟩ a_laws_eqVrow Try.f207 (codeOf Try.f207) [.val true cVrow false, .val true cVrow false] [.val false (.one .bool) true] = fun a => laws_eqVrow a.1 a.2 := by kernel_rfl
theorem m_laws_eqVrow : Meets Try.prog 207 F_laws_eqVrow := by
  have h := meets_of (ann := a_laws_eqVrow) (ps := [.val true cVrow false, .val true cVrow false]) (rs := [.val false (.one .bool) true]) g_82 mixed Try.func207 (by kernel_rfl) (by kernel_rfl : Try.f207.body = some (codeOf Try.f207))
  rw [e_laws_eqVrow] at h
  exact h
noncomputable def fns_207 : List (FuncId × Fn) := (207, F_laws_eqVrow) :: fns_82
theorem g_207 : Good Try.prog ⟨tis, fns_207⟩ := g_82.cons m_laws_eqVrow
noncomputable def laws_eqVrowS_l0 (a0 : List Vrow) (b1 : List Vrow) (i5 : Int) : Option (Int ⊕ (Unit ⊕ Bool)) :=
  cond (decide (i5 < (a0.length : Int)))
    ((at? a0 i5).bind fun x19 =>
    (at? b1 i5).bind fun x23 =>
    (laws_eqVrow x19 x23).bind fun t25 =>
    cond (!t25) (some (.inr (.inr false))) (some (.inl (w64 (i5 + 1)))))
    (some (.inr (.inl ())))
noncomputable def laws_eqVrowS (a0 : List Vrow) (b1 : List Vrow) : Option Bool :=
  cond ((a0.length : Int) != (b1.length : Int))
    (some false)
    ((loop (fun z => laws_eqVrowS_l0 a0 b1 z) 0).bind (Sum.elim (fun d =>
      some true) (fun r => some r)))
noncomputable def F_laws_eqVrowS : Fn := ⟨[.val false (.one (.sl cVrow)) false, .val false (.one (.sl cVrow)) false], [.val false (.one .bool) true], fun a => laws_eqVrowS a.1 a.2⟩
def a_laws_eqVrowS : List (Nat × LoopAnn) := [(0, ⟨⟨[(5, false, [.dat (.int .i64)])], []⟩,
    ⟨[], []⟩, some ⟨[(4, false, [.dat .bool])], []⟩⟩)]
theorem e_laws_eqVrowS : fnDen ⟨tis, fns_207⟩ a_laws_eqVrowS Try.f160 (codeOf Try.f160) [.val false (.one (.sl cVrow)) false, .val false (.one (.sl cVrow)) false] [.val false (.one .bool) true] = fun a => laws_eqVrowS a.1 a.2 := by kernel_rfl
theorem m_laws_eqVrowS : Meets Try.prog 160 F_laws_eqVrowS := by
  have h := meets_of (ann := a_laws_eqVrowS) (ps := [.val false (.one (.sl cVrow)) false, .val false (.one (.sl cVrow)) false]) (rs := [.val false (.one .bool) true]) g_207 mixed Try.func160 (by kernel_rfl) (by kernel_rfl : Try.f160.body = some (codeOf Try.f160))
  rw [e_laws_eqVrowS] at h
  exact h
noncomputable def fns_160 : List (FuncId × Fn) := (160, F_laws_eqVrowS) :: fns_207
theorem g_160 : Good Try.prog ⟨tis, fns_160⟩ := g_207.cons m_laws_eqVrowS
noncomputable def laws_eqIntS_l0 (a0 : List Int) (b1 : List Int) (i5 : Int) : Option (Int ⊕ (Unit ⊕ Bool)) :=
  cond (decide (i5 < (a0.length : Int)))
    ((at? a0 i5).bind fun x19 =>
    (at? b1 i5).bind fun x23 =>
    cond (x19 != x23) (some (.inr (.inr false))) (some (.inl (w64 (i5 + 1)))))
    (some (.inr (.inl ())))
noncomputable def laws_eqIntS (a0 : List Int) (b1 : List Int) : Option Bool :=
  cond ((a0.length : Int) != (b1.length : Int))
    (some false)
    ((loop (fun z => laws_eqIntS_l0 a0 b1 z) 0).bind (Sum.elim (fun d =>
      some true) (fun r => some r)))
noncomputable def F_laws_eqIntS : Fn := ⟨[.val false (.one (.sl (.one (.int .i64)))) false, .val false (.one (.sl (.one (.int .i64)))) false], [.val false (.one .bool) true], fun a => laws_eqIntS a.1 a.2⟩
def a_laws_eqIntS : List (Nat × LoopAnn) := [(0, ⟨⟨[(5, false, [.dat (.int .i64)])], []⟩,
    ⟨[], []⟩, some ⟨[(4, false, [.dat .bool])], []⟩⟩)]
theorem e_laws_eqIntS : fnDen ⟨tis, fns_160⟩ a_laws_eqIntS Try.f161 (codeOf Try.f161) [.val false (.one (.sl (.one (.int .i64)))) false, .val false (.one (.sl (.one (.int .i64)))) false] [.val false (.one .bool) true] = fun a => laws_eqIntS a.1 a.2 := by kernel_rfl
theorem m_laws_eqIntS : Meets Try.prog 161 F_laws_eqIntS := by
  have h := meets_of (ann := a_laws_eqIntS) (ps := [.val false (.one (.sl (.one (.int .i64)))) false, .val false (.one (.sl (.one (.int .i64)))) false]) (rs := [.val false (.one .bool) true]) g_160 mixed Try.func161 (by kernel_rfl) (by kernel_rfl : Try.f161.body = some (codeOf Try.f161))
  rw [e_laws_eqIntS] at h
  exact h
noncomputable def fns_161 : List (FuncId × Fn) := (161, F_laws_eqIntS) :: fns_160
theorem g_161 : Good Try.prog ⟨tis, fns_161⟩ := g_160.cons m_laws_eqIntS
noncomputable def laws_eqVtab (a0 : Vtab) (b1 : Vtab) : Option Bool :=
  (laws_eqVrowS a0.1 b1.1).bind fun t9 =>
  cond (!t9)
    (some false)
    ((laws_eqIntS a0.2 b1.2).bind fun t15 =>
    cond (!t15) (some false) (some true))
noncomputable def F_laws_eqVtab : Fn := ⟨[.val true cVtab false, .val true cVtab false], [.val false (.one .bool) true], fun a => laws_eqVtab a.1 a.2⟩
def a_laws_eqVtab : List (Nat × LoopAnn) := []
theorem e_laws_eqVtab : fnDen ⟨tis, fns_161⟩ a_laws_eqVtab Try.f83 (codeOf Try.f83) [.val true cVtab false, .val true cVtab false] [.val false (.one .bool) true] = fun a => laws_eqVtab a.1 a.2 := by kernel_rfl
theorem m_laws_eqVtab : Meets Try.prog 83 F_laws_eqVtab := by
  have h := meets_of (ann := a_laws_eqVtab) (ps := [.val true cVtab false, .val true cVtab false]) (rs := [.val false (.one .bool) true]) g_161 mixed Try.func83 (by kernel_rfl) (by kernel_rfl : Try.f83.body = some (codeOf Try.f83))
  rw [e_laws_eqVtab] at h
  exact h
noncomputable def fns_83 : List (FuncId × Fn) := (83, F_laws_eqVtab) :: fns_161
theorem g_83 : Good Try.prog ⟨tis, fns_83⟩ := g_161.cons m_laws_eqVtab
noncomputable def laws_eqBridge (a0 : Bridge) (b1 : Bridge) : Option Bool :=
  cond (a0.1 != b1.1)
    (some false)
    (cond (!(a0.2.1 == b1.2.1))
      (some false)
      ((laws_eqPtS a0.2.2.1 b1.2.2.1).bind fun t19 =>
      cond (!t19)
        (some false)
        ((laws_eqFentS a0.2.2.2.1 b1.2.2.2.1).bind fun t25 =>
        cond (!t25)
          (some false)
          ((laws_eqVtab (a0.2.2.2.2.1, a0.2.2.2.2.2.1) (b1.2.2.2.2.1, b1.2.2.2.2.2.1)).bind fun t31 =>
          cond (!t31)
            (some false)
            (cond (a0.2.2.2.2.2.2.1 != b1.2.2.2.2.2.2.1)
              (some false)
              (cond (a0.2.2.2.2.2.2.2.1 != b1.2.2.2.2.2.2.2.1)
                (some false)
                (cond (a0.2.2.2.2.2.2.2.2.1 != b1.2.2.2.2.2.2.2.2.1)
                  (some false)
                  (cond (a0.2.2.2.2.2.2.2.2.2.1 != b1.2.2.2.2.2.2.2.2.2.1)
                    (some false)
                    (cond (a0.2.2.2.2.2.2.2.2.2.2 != b1.2.2.2.2.2.2.2.2.2.2) (some false) (some true))))))))))
noncomputable def F_laws_eqBridge : Fn := ⟨[.val true cBridge false, .val true cBridge false], [.val false (.one .bool) true], fun a => laws_eqBridge a.1 a.2⟩
def a_laws_eqBridge : List (Nat × LoopAnn) := []
theorem e_laws_eqBridge : fnDen ⟨tis, fns_83⟩ a_laws_eqBridge Try.f22 (codeOf Try.f22) [.val true cBridge false, .val true cBridge false] [.val false (.one .bool) true] = fun a => laws_eqBridge a.1 a.2 := by kernel_rfl
theorem m_laws_eqBridge : Meets Try.prog 22 F_laws_eqBridge := by
  have h := meets_of (ann := a_laws_eqBridge) (ps := [.val true cBridge false, .val true cBridge false]) (rs := [.val false (.one .bool) true]) g_83 mixed Try.func22 (by kernel_rfl) (by kernel_rfl : Try.f22.body = some (codeOf Try.f22))
  rw [e_laws_eqBridge] at h
  exact h
noncomputable def fns_22 : List (FuncId × Fn) := (22, F_laws_eqBridge) :: fns_83
theorem g_22 : Good Try.prog ⟨tis, fns_22⟩ := g_83.cons m_laws_eqBridge
noncomputable def laws_eqByteS_l0 (a0 : List Int) (b1 : List Int) (i5 : Int) : Option (Int ⊕ (Unit ⊕ Bool)) :=
  cond (decide (i5 < (a0.length : Int)))
    ((at? a0 i5).bind fun x19 =>
    (at? b1 i5).bind fun x23 =>
    cond (x19 != x23) (some (.inr (.inr false))) (some (.inl (w64 (i5 + 1)))))
    (some (.inr (.inl ())))
noncomputable def laws_eqByteS (a0 : List Int) (b1 : List Int) : Option Bool :=
  cond ((a0.length : Int) != (b1.length : Int))
    (some false)
    ((loop (fun z => laws_eqByteS_l0 a0 b1 z) 0).bind (Sum.elim (fun d =>
      some true) (fun r => some r)))
noncomputable def F_laws_eqByteS : Fn := ⟨[.val false (.one (.sl (.one (.int .u8)))) false, .val false (.one (.sl (.one (.int .u8)))) false], [.val false (.one .bool) true], fun a => laws_eqByteS a.1 a.2⟩
def a_laws_eqByteS : List (Nat × LoopAnn) := [(0, ⟨⟨[(5, false, [.dat (.int .i64)])], []⟩,
    ⟨[], []⟩, some ⟨[(4, false, [.dat .bool])], []⟩⟩)]
theorem e_laws_eqByteS : fnDen ⟨tis, fns_22⟩ a_laws_eqByteS Try.f212 (codeOf Try.f212) [.val false (.one (.sl (.one (.int .u8)))) false, .val false (.one (.sl (.one (.int .u8)))) false] [.val false (.one .bool) true] = fun a => laws_eqByteS a.1 a.2 := by kernel_rfl
theorem m_laws_eqByteS : Meets Try.prog 212 F_laws_eqByteS := by
  have h := meets_of (ann := a_laws_eqByteS) (ps := [.val false (.one (.sl (.one (.int .u8)))) false, .val false (.one (.sl (.one (.int .u8)))) false]) (rs := [.val false (.one .bool) true]) g_22 mixed Try.func212 (by kernel_rfl) (by kernel_rfl : Try.f212.body = some (codeOf Try.f212))
  rw [e_laws_eqByteS] at h
  exact h
noncomputable def fns_212 : List (FuncId × Fn) := (212, F_laws_eqByteS) :: fns_22
theorem g_212 : Good Try.prog ⟨tis, fns_212⟩ := g_22.cons m_laws_eqByteS
noncomputable def laws_eqVal (a0 : Val) (b1 : Val) : Option Bool :=
  cond (a0.1 != b1.1)
    (some false)
    (cond (a0.2.1 != b1.2.1)
      (some false)
      (cond (!(a0.2.2.1 == b1.2.2.1))
        (some false)
        ((laws_eqIntS a0.2.2.2 b1.2.2.2).bind fun t24 =>
        cond (!t24) (some false) (some true))))
noncomputable def F_laws_eqVal : Fn := ⟨[.val true cVal false, .val true cVal false], [.val false (.one .bool) true], fun a => laws_eqVal a.1 a.2⟩
def a_laws_eqVal : List (Nat × LoopAnn) := []
theorem e_laws_eqVal : fnDen ⟨tis, fns_212⟩ a_laws_eqVal Try.f246 (codeOf Try.f246) [.val true cVal false, .val true cVal false] [.val false (.one .bool) true] = fun a => laws_eqVal a.1 a.2 := by kernel_rfl
theorem m_laws_eqVal : Meets Try.prog 246 F_laws_eqVal := by
  have h := meets_of (ann := a_laws_eqVal) (ps := [.val true cVal false, .val true cVal false]) (rs := [.val false (.one .bool) true]) g_212 mixed Try.func246 (by kernel_rfl) (by kernel_rfl : Try.f246.body = some (codeOf Try.f246))
  rw [e_laws_eqVal] at h
  exact h
noncomputable def fns_246 : List (FuncId × Fn) := (246, F_laws_eqVal) :: fns_212
theorem g_246 : Good Try.prog ⟨tis, fns_246⟩ := g_212.cons m_laws_eqVal
noncomputable def laws_eqBind (a0 : Bind) (b1 : Bind) : Option Bool :=
  (laws_eqIntS a0.1 b1.1).bind fun t9 =>
  cond (!t9)
    (some false)
    ((laws_eqVal a0.2 b1.2).bind fun t15 =>
    cond (!t15) (some false) (some true))
noncomputable def F_laws_eqBind : Fn := ⟨[.val true cBind false, .val true cBind false], [.val false (.one .bool) true], fun a => laws_eqBind a.1 a.2⟩
def a_laws_eqBind : List (Nat × LoopAnn) := []
theorem e_laws_eqBind : fnDen ⟨tis, fns_246⟩ a_laws_eqBind Try.f243 (codeOf Try.f243) [.val true cBind false, .val true cBind false] [.val false (.one .bool) true] = fun a => laws_eqBind a.1 a.2 := by kernel_rfl
theorem m_laws_eqBind : Meets Try.prog 243 F_laws_eqBind := by
  have h := meets_of (ann := a_laws_eqBind) (ps := [.val true cBind false, .val true cBind false]) (rs := [.val false (.one .bool) true]) g_246 mixed Try.func243 (by kernel_rfl) (by kernel_rfl : Try.f243.body = some (codeOf Try.f243))
  rw [e_laws_eqBind] at h
  exact h
noncomputable def fns_243 : List (FuncId × Fn) := (243, F_laws_eqBind) :: fns_246
theorem g_243 : Good Try.prog ⟨tis, fns_243⟩ := g_246.cons m_laws_eqBind
noncomputable def laws_eqBindS_l0 (a0 : List Bind) (b1 : List Bind) (i5 : Int) : Option (Int ⊕ (Unit ⊕ Bool)) :=
  cond (decide (i5 < (a0.length : Int)))
    ((at? a0 i5).bind fun x19 =>
    (at? b1 i5).bind fun x23 =>
    (laws_eqBind x19 x23).bind fun t25 =>
    cond (!t25) (some (.inr (.inr false))) (some (.inl (w64 (i5 + 1)))))
    (some (.inr (.inl ())))
noncomputable def laws_eqBindS (a0 : List Bind) (b1 : List Bind) : Option Bool :=
  cond ((a0.length : Int) != (b1.length : Int))
    (some false)
    ((loop (fun z => laws_eqBindS_l0 a0 b1 z) 0).bind (Sum.elim (fun d =>
      some true) (fun r => some r)))
noncomputable def F_laws_eqBindS : Fn := ⟨[.val false (.one (.sl cBind)) false, .val false (.one (.sl cBind)) false], [.val false (.one .bool) true], fun a => laws_eqBindS a.1 a.2⟩
def a_laws_eqBindS : List (Nat × LoopAnn) := [(0, ⟨⟨[(5, false, [.dat (.int .i64)])], []⟩,
    ⟨[], []⟩, some ⟨[(4, false, [.dat .bool])], []⟩⟩)]
theorem e_laws_eqBindS : fnDen ⟨tis, fns_243⟩ a_laws_eqBindS Try.f237 (codeOf Try.f237) [.val false (.one (.sl cBind)) false, .val false (.one (.sl cBind)) false] [.val false (.one .bool) true] = fun a => laws_eqBindS a.1 a.2 := by kernel_rfl
theorem m_laws_eqBindS : Meets Try.prog 237 F_laws_eqBindS := by
  have h := meets_of (ann := a_laws_eqBindS) (ps := [.val false (.one (.sl cBind)) false, .val false (.one (.sl cBind)) false]) (rs := [.val false (.one .bool) true]) g_243 mixed Try.func237 (by kernel_rfl) (by kernel_rfl : Try.f237.body = some (codeOf Try.f237))
  rw [e_laws_eqBindS] at h
  exact h
noncomputable def fns_237 : List (FuncId × Fn) := (237, F_laws_eqBindS) :: fns_243
theorem g_237 : Good Try.prog ⟨tis, fns_237⟩ := g_243.cons m_laws_eqBindS
noncomputable def laws_eqPdu (a0 : Pdu) (b1 : Pdu) : Option Bool :=
  cond (a0.1 != b1.1)
    (some false)
    (cond (a0.2.1 != b1.2.1)
      (some false)
      (cond (a0.2.2.1 != b1.2.2.1)
        (some false)
        (cond (a0.2.2.2.1 != b1.2.2.2.1)
          (some false)
          ((laws_eqBindS a0.2.2.2.2 b1.2.2.2.2).bind fun t29 =>
          cond (!t29) (some false) (some true)))))
noncomputable def F_laws_eqPdu : Fn := ⟨[.val true cPdu false, .val true cPdu false], [.val false (.one .bool) true], fun a => laws_eqPdu a.1 a.2⟩
def a_laws_eqPdu : List (Nat × LoopAnn) := []
theorem e_laws_eqPdu : fnDen ⟨tis, fns_237⟩ a_laws_eqPdu Try.f213 (codeOf Try.f213) [.val true cPdu false, .val true cPdu false] [.val false (.one .bool) true] = fun a => laws_eqPdu a.1 a.2 := by kernel_rfl
theorem m_laws_eqPdu : Meets Try.prog 213 F_laws_eqPdu := by
  have h := meets_of (ann := a_laws_eqPdu) (ps := [.val true cPdu false, .val true cPdu false]) (rs := [.val false (.one .bool) true]) g_237 mixed Try.func213 (by kernel_rfl) (by kernel_rfl : Try.f213.body = some (codeOf Try.f213))
  rw [e_laws_eqPdu] at h
  exact h
noncomputable def fns_213 : List (FuncId × Fn) := (213, F_laws_eqPdu) :: fns_237
theorem g_213 : Good Try.prog ⟨tis, fns_213⟩ := g_237.cons m_laws_eqPdu
noncomputable def laws_eqJob (a0 : Job) (b1 : Job) : Option Bool :=
  cond (a0.1 != b1.1)
    (some false)
    ((laws_eqByteS a0.2.1 b1.2.1).bind fun t14 =>
    cond (!t14)
      (some false)
      (cond (a0.2.2.1 != b1.2.2.1)
        (some false)
        ((laws_eqPdu (a0.2.2.2.1, a0.2.2.2.2.1, a0.2.2.2.2.2.1, a0.2.2.2.2.2.2.1, a0.2.2.2.2.2.2.2.1) (b1.2.2.2.1, b1.2.2.2.2.1, b1.2.2.2.2.2.1, b1.2.2.2.2.2.2.1, b1.2.2.2.2.2.2.2.1)).bind fun t25 =>
        cond (!t25)
          (some false)
          ((laws_eqBridge (a0.2.2.2.2.2.2.2.2.1, a0.2.2.2.2.2.2.2.2.2.1, a0.2.2.2.2.2.2.2.2.2.2.1, a0.2.2.2.2.2.2.2.2.2.2.2.1, a0.2.2.2.2.2.2.2.2.2.2.2.2.1, a0.2.2.2.2.2.2.2.2.2.2.2.2.2.1, a0.2.2.2.2.2.2.2.2.2.2.2.2.2.2.1, a0.2.2.2.2.2.2.2.2.2.2.2.2.2.2.2.1, a0.2.2.2.2.2.2.2.2.2.2.2.2.2.2.2.2.1, a0.2.2.2.2.2.2.2.2.2.2.2.2.2.2.2.2.2.1, a0.2.2.2.2.2.2.2.2.2.2.2.2.2.2.2.2.2.2.1) (b1.2.2.2.2.2.2.2.2.1, b1.2.2.2.2.2.2.2.2.2.1, b1.2.2.2.2.2.2.2.2.2.2.1, b1.2.2.2.2.2.2.2.2.2.2.2.1, b1.2.2.2.2.2.2.2.2.2.2.2.2.1, b1.2.2.2.2.2.2.2.2.2.2.2.2.2.1, b1.2.2.2.2.2.2.2.2.2.2.2.2.2.2.1, b1.2.2.2.2.2.2.2.2.2.2.2.2.2.2.2.1, b1.2.2.2.2.2.2.2.2.2.2.2.2.2.2.2.2.1, b1.2.2.2.2.2.2.2.2.2.2.2.2.2.2.2.2.2.1, b1.2.2.2.2.2.2.2.2.2.2.2.2.2.2.2.2.2.2.1)).bind fun t31 =>
          cond (!t31)
            (some false)
            (cond (a0.2.2.2.2.2.2.2.2.2.2.2.2.2.2.2.2.2.2.2.1 != b1.2.2.2.2.2.2.2.2.2.2.2.2.2.2.2.2.2.2.2.1)
              (some false)
              (cond (a0.2.2.2.2.2.2.2.2.2.2.2.2.2.2.2.2.2.2.2.2 != b1.2.2.2.2.2.2.2.2.2.2.2.2.2.2.2.2.2.2.2.2) (some false) (some true)))))))
noncomputable def F_laws_eqJob : Fn := ⟨[.val true cJob false, .val true cJob false], [.val false (.one .bool) true], fun a => laws_eqJob a.1 a.2⟩
def a_laws_eqJob : List (Nat × LoopAnn) := []
theorem e_laws_eqJob : fnDen ⟨tis, fns_213⟩ a_laws_eqJob Try.f164 (codeOf Try.f164) [.val true cJob false, .val true cJob false] [.val false (.one .bool) true] = fun a => laws_eqJob a.1 a.2 := by kernel_rfl
theorem m_laws_eqJob : Meets Try.prog 164 F_laws_eqJob := by
  have h := meets_of (ann := a_laws_eqJob) (ps := [.val true cJob false, .val true cJob false]) (rs := [.val false (.one .bool) true]) g_213 mixed Try.func164 (by kernel_rfl) (by kernel_rfl : Try.f164.body = some (codeOf Try.f164))
  rw [e_laws_eqJob] at h
  exact h
noncomputable def fns_164 : List (FuncId × Fn) := (164, F_laws_eqJob) :: fns_213
theorem g_164 : Good Try.prog ⟨tis, fns_164⟩ := g_213.cons m_laws_eqJob
noncomputable def laws_eqJobS_l0 (a0 : List Job) (b1 : List Job) (i5 : Int) : Option (Int ⊕ (Unit ⊕ Bool)) :=
  cond (decide (i5 < (a0.length : Int)))
    ((at? a0 i5).bind fun x19 =>
    (at? b1 i5).bind fun x23 =>
    (laws_eqJob x19 x23).bind fun t25 =>
    cond (!t25) (some (.inr (.inr false))) (some (.inl (w64 (i5 + 1)))))
    (some (.inr (.inl ())))
noncomputable def laws_eqJobS (a0 : List Job) (b1 : List Job) : Option Bool :=
  cond ((a0.length : Int) != (b1.length : Int))
    (some false)
    ((loop (fun z => laws_eqJobS_l0 a0 b1 z) 0).bind (Sum.elim (fun d =>
      some true) (fun r => some r)))
noncomputable def F_laws_eqJobS : Fn := ⟨[.val false (.one (.sl cJob)) false, .val false (.one (.sl cJob)) false], [.val false (.one .bool) true], fun a => laws_eqJobS a.1 a.2⟩
def a_laws_eqJobS : List (Nat × LoopAnn) := [(0, ⟨⟨[(5, false, [.dat (.int .i64)])], []⟩,
    ⟨[], []⟩, some ⟨[(4, false, [.dat .bool])], []⟩⟩)]
theorem e_laws_eqJobS : fnDen ⟨tis, fns_164⟩ a_laws_eqJobS Try.f86 (codeOf Try.f86) [.val false (.one (.sl cJob)) false, .val false (.one (.sl cJob)) false] [.val false (.one .bool) true] = fun a => laws_eqJobS a.1 a.2 := by kernel_rfl
theorem m_laws_eqJobS : Meets Try.prog 86 F_laws_eqJobS := by
  have h := meets_of (ann := a_laws_eqJobS) (ps := [.val false (.one (.sl cJob)) false, .val false (.one (.sl cJob)) false]) (rs := [.val false (.one .bool) true]) g_164 mixed Try.func86 (by kernel_rfl) (by kernel_rfl : Try.f86.body = some (codeOf Try.f86))
  rw [e_laws_eqJobS] at h
  exact h
noncomputable def fns_86 : List (FuncId × Fn) := (86, F_laws_eqJobS) :: fns_164
theorem g_86 : Good Try.prog ⟨tis, fns_86⟩ := g_164.cons m_laws_eqJobS
noncomputable def laws_eqAgent (a0 : Agent) (b1 : Agent) : Option Bool :=
  (laws_eqBridge (a0.1, a0.2.1, a0.2.2.1, a0.2.2.2.1, a0.2.2.2.2.1, a0.2.2.2.2.2.1, a0.2.2.2.2.2.2.1, a0.2.2.2.2.2.2.2.1, a0.2.2.2.2.2.2.2.2.1, a0.2.2.2.2.2.2.2.2.2.1, a0.2.2.2.2.2.2.2.2.2.2.1) (b1.1, b1.2.1, b1.2.2.1, b1.2.2.2.1, b1.2.2.2.2.1, b1.2.2.2.2.2.1, b1.2.2.2.2.2.2.1, b1.2.2.2.2.2.2.2.1, b1.2.2.2.2.2.2.2.2.1, b1.2.2.2.2.2.2.2.2.2.1, b1.2.2.2.2.2.2.2.2.2.2.1)).bind fun t9 =>
  cond (!t9)
    (some false)
    (cond (!(a0.2.2.2.2.2.2.2.2.2.2.2.1 == b1.2.2.2.2.2.2.2.2.2.2.2.1))
      (some false)
      ((laws_eqJobS a0.2.2.2.2.2.2.2.2.2.2.2.2.1 b1.2.2.2.2.2.2.2.2.2.2.2.2.1).bind fun t20 =>
      cond (!t20)
        (some false)
        (cond (a0.2.2.2.2.2.2.2.2.2.2.2.2.2.1 != b1.2.2.2.2.2.2.2.2.2.2.2.2.2.1)
          (some false)
          (cond (a0.2.2.2.2.2.2.2.2.2.2.2.2.2.2 != b1.2.2.2.2.2.2.2.2.2.2.2.2.2.2) (some false) (some true)))))
noncomputable def F_laws_eqAgent : Fn := ⟨[.val true cAgent false, .val true cAgent false], [.val false (.one .bool) true], fun a => laws_eqAgent a.1 a.2⟩
def a_laws_eqAgent : List (Nat × LoopAnn) := []
theorem e_laws_eqAgent : fnDen ⟨tis, fns_86⟩ a_laws_eqAgent Try.f27 (codeOf Try.f27) [.val true cAgent false, .val true cAgent false] [.val false (.one .bool) true] = fun a => laws_eqAgent a.1 a.2 := by kernel_rfl
theorem m_laws_eqAgent : Meets Try.prog 27 F_laws_eqAgent := by
  have h := meets_of (ann := a_laws_eqAgent) (ps := [.val true cAgent false, .val true cAgent false]) (rs := [.val false (.one .bool) true]) g_86 mixed Try.func27 (by kernel_rfl) (by kernel_rfl : Try.f27.body = some (codeOf Try.f27))
  rw [e_laws_eqAgent] at h
  exact h
noncomputable def fns_27 : List (FuncId × Fn) := (27, F_laws_eqAgent) :: fns_86
theorem g_27 : Good Try.prog ⟨tis, fns_27⟩ := g_86.cons m_laws_eqAgent
noncomputable def laws_FnExactIdle (aA0 : Agent) : Option Bool :=
  (laws_szAgent aA0 1048576).bind fun t9 =>
  cond (decide (t9 < 0))
    (some true)
    ((laws_toAgent aA0).bind fun t13 =>
    (spec_Idle t13).bind fun t14 =>
    (laws_toAgent aA0).bind fun t16 =>
    (impl_Idle t16).bind fun t18 =>
    cond (!(t18 == t14))
      (some false)
      ((laws_toAgent aA0).bind fun t24 =>
      (laws_eqAgent t16 t24).bind fun t25 =>
      cond (!t25) (some false) (some true)))
noncomputable def F_laws_FnExactIdle : Fn := ⟨[.val true cAgent false], [.val false (.one .bool) true], fun a => laws_FnExactIdle a⟩
def a_laws_FnExactIdle : List (Nat × LoopAnn) := []
theorem e_laws_FnExactIdle : fnDen ⟨tis, fns_27⟩ a_laws_FnExactIdle Try.f5 (codeOf Try.f5) [.val true cAgent false] [.val false (.one .bool) true] = fun a => laws_FnExactIdle a := by kernel_rfl
theorem m_laws_FnExactIdle : Meets Try.prog 5 F_laws_FnExactIdle := by
  have h := meets_of (ann := a_laws_FnExactIdle) (ps := [.val true cAgent false]) (rs := [.val false (.one .bool) true]) g_27 mixed Try.func5 (by kernel_rfl) (by kernel_rfl : Try.f5.body = some (codeOf Try.f5))
  rw [e_laws_FnExactIdle] at h
  exact h
noncomputable def fns_5 : List (FuncId × Fn) := (5, F_laws_FnExactIdle) :: fns_27
theorem g_5 : Good Try.prog ⟨tis, fns_5⟩ := g_27.cons m_laws_FnExactIdle
end Go.V.W
