/- The law FnExactNeedOf: part of the proof that for every input it returns true. No condition. -/
import Derived.Test.YtdhcmckfgnommaaGreatV4
import Derived.Test.YtdhcmckfgnommaaGreatProg
import Derived.Test.YtdhcmckfgnommaaGreatChecked
import Derived.KernelRfl
namespace Go.V.W
open Go.Proofs
set_option linter.unusedVariables false
@[reducible] def cVec : Cs := .cons (.int .i64) (.cons (.int .i64) (.cons (.int .i64) (.cons (.int .i64) (.one (.int .i64)))))
@[reducible] def cPt : Cs := .cons .bool (.cons (.int .i64) (.cons .bool (.cons (.int .i64) (.cons (.int .i64) (.cons (.int .i64) (.cons (.int .i64) (.one (.int .i64))))))))
@[reducible] def cFent : Cs := .cons (.int .i64) (.cons (.int .i64) (.cons (.int .i64) (.cons (.int .i64) (.one .bool))))
@[reducible] def cVrow : Cs := .cons (.int .i64) (.cons (.int .i64) (.one (.int .i64)))
@[reducible] def cVtab : Cs := .cons (.sl cVrow) (.one (.sl (.one (.int .i64))))
@[reducible] def cBridge : Cs := .cons (.int .i64) (.cons .str (.cons (.sl cPt) (.cons (.sl cFent) (.cons (.sl cVrow) (.cons (.sl (.one (.int .i64))) (.cons (.int .i64) (.cons (.int .i64) (.cons (.int .i64) (.cons (.int .i64) (.one (.int .i64)))))))))))
@[reducible] def cVal : Cs := .cons (.int .i64) (.cons (.int .i64) (.cons .str (.one (.sl (.one (.int .i64))))))
@[reducible] def cBind : Cs := .cons (.sl (.one (.int .i64))) (.cons (.int .i64) (.cons (.int .i64) (.cons .str (.one (.sl (.one (.int .i64)))))))
@[reducible] def cPdu : Cs := .cons (.int .i64) (.cons (.int .i64) (.cons (.int .i64) (.cons (.int .i64) (.one (.sl cBind)))))
@[reducible] def cJob : Cs := .cons (.int .i64) (.cons (.sl (.one (.int .u8))) (.cons (.int .i64) (.cons (.int .i64) (.cons (.int .i64) (.cons (.int .i64) (.cons (.int .i64) (.cons (.sl cBind) (.cons (.int .i64) (.cons .str (.cons (.sl cPt) (.cons (.sl cFent) (.cons (.sl cVrow) (.cons (.sl (.one (.int .i64))) (.cons (.int .i64) (.cons (.int .i64) (.cons (.int .i64) (.cons (.int .i64) (.cons (.int .i64) (.cons (.int .i64) (.one (.int .i64)))))))))))))))))))))
@[reducible] def cAgent : Cs := .cons (.int .i64) (.cons .str (.cons (.sl cPt) (.cons (.sl cFent) (.cons (.sl cVrow) (.cons (.sl (.one (.int .i64))) (.cons (.int .i64) (.cons (.int .i64) (.cons (.int .i64) (.cons (.int .i64) (.cons (.int .i64) (.cons .str (.cons (.sl cJob) (.cons (.int .i64) (.one (.int .i64)))))))))))))))
@[reducible] def cL4Reader : Cs := .cons (.sl (.one (.int .u8))) (.cons (.int .i64) (.one .bool))
abbrev Vec : Type := Int × Int × Int × Int × Int
abbrev Pt : Type := Bool × Int × Bool × Int × Int × Int × Int × Int
abbrev Fent : Type := Int × Int × Int × Int × Bool
abbrev Vrow : Type := Int × Int × Int
abbrev Vtab : Type := List Vrow × List Int
abbrev Bridge : Type := Int × List UInt8 × List Pt × List Fent × List Vrow × List Int × Int × Int × Int × Int × Int
abbrev Val : Type := Int × Int × List UInt8 × List Int
abbrev Bind : Type := List Int × Int × Int × List UInt8 × List Int
abbrev Pdu : Type := Int × Int × Int × Int × List Bind
abbrev Job : Type := Int × List Int × Int × Int × Int × Int × Int × List Bind × Int × List UInt8 × List Pt × List Fent × List Vrow × List Int × Int × Int × Int × Int × Int × Int × Int
abbrev Agent : Type := Int × List UInt8 × List Pt × List Fent × List Vrow × List Int × Int × Int × Int × Int × Int × List UInt8 × List Job × Int × Int
abbrev L4Reader : Type := List Int × Int × Bool
def tis : List (Nat × TInfo) := [(2, ⟨false, .one (.int .i64), [], 0⟩),
  (3, ⟨false, .one (.int .i64), [], 0⟩),
  (4, ⟨false, .one .bool, [], 0⟩),
  (5, ⟨false, .one (.int .u8), [], 0⟩),
  (6, ⟨false, .one (.int .u8), [], 0⟩),
  (9, ⟨false, .one .str, [], 0⟩),
  (10, ⟨false, .one .str, [], 0⟩),
  (11, ⟨false, .one .str, [], 0⟩),
  (12, ⟨false, .one (.int .u64), [], 0⟩),
  (21, ⟨false, .one (.int .i32), [], 0⟩),
  (22, ⟨false, .one (.sl (.one (.int .u8))), [], 5⟩),
  (24, ⟨false, .one (.sl cPt), [], 141⟩),
  (25, ⟨false, .one (.sl cFent), [], 143⟩),
  (26, ⟨false, .one (.sl cVrow), [], 232⟩),
  (27, ⟨false, .one (.sl (.one (.int .i64))), [], 3⟩),
  (28, ⟨true, cVtab, [(26, 0), (27, 1)], 0⟩),
  (29, ⟨true, cVtab, [(26, 0), (27, 1)], 0⟩),
  (30, ⟨true, cBridge, [(3, 0), (9, 1), (24, 2), (25, 3), (29, 4), (3, 6), (3, 7), (3, 8), (3, 9), (3, 10)], 0⟩),
  (31, ⟨true, cBridge, [(3, 0), (9, 1), (24, 2), (25, 3), (29, 4), (3, 6), (3, 7), (3, 8), (3, 9), (3, 10)], 0⟩),
  (35, ⟨false, .one (.sl cBind), [], 43⟩),
  (36, ⟨true, cPdu, [(3, 0), (3, 1), (3, 2), (3, 3), (35, 4)], 0⟩),
  (37, ⟨true, cPdu, [(3, 0), (3, 1), (3, 2), (3, 3), (35, 4)], 0⟩),
  (40, ⟨true, cVal, [(3, 0), (3, 1), (9, 2), (27, 3)], 0⟩),
  (41, ⟨true, cVal, [(3, 0), (3, 1), (9, 2), (27, 3)], 0⟩),
  (42, ⟨true, cBind, [(27, 0), (41, 1)], 0⟩),
  (43, ⟨true, cBind, [(27, 0), (41, 1)], 0⟩),
  (65, ⟨false, .one (.sl cJob), [], 72⟩),
  (66, ⟨true, cAgent, [(31, 0), (9, 11), (65, 12), (3, 13), (3, 14)], 0⟩),
  (67, ⟨true, cAgent, [(31, 0), (9, 11), (65, 12), (3, 13), (3, 14)], 0⟩),
  (71, ⟨true, cJob, [(3, 0), (22, 1), (3, 2), (37, 3), (31, 8), (3, 19), (3, 20)], 0⟩),
  (72, ⟨true, cJob, [(3, 0), (22, 1), (3, 2), (37, 3), (31, 8), (3, 19), (3, 20)], 0⟩),
  (74, ⟨false, .one (.sl (.cons (.int .i64) (.cons (.int .i64) (.cons (.int .i64) (.cons (.int .i64) (.cons (.int .i64) (.one (.sl cBind)))))))), [], 78⟩),
  (77, ⟨true, .cons (.int .i64) (.cons (.int .i64) (.cons (.int .i64) (.cons (.int .i64) (.cons (.int .i64) (.one (.sl cBind)))))), [(3, 0), (37, 1)], 0⟩),
  (78, ⟨true, .cons (.int .i64) (.cons (.int .i64) (.cons (.int .i64) (.cons (.int .i64) (.cons (.int .i64) (.one (.sl cBind)))))), [(3, 0), (37, 1)], 0⟩),
  (79, ⟨false, .one (.sl cPt), [], 261⟩),
  (80, ⟨false, .one (.sl cFent), [], 263⟩),
  (81, ⟨false, .one (.sl cVrow), [], 326⟩),
  (82, ⟨true, cVtab, [(81, 0), (27, 1)], 0⟩),
  (83, ⟨true, cVtab, [(81, 0), (27, 1)], 0⟩),
  (84, ⟨true, cBridge, [(3, 0), (9, 1), (79, 2), (80, 3), (83, 4), (3, 6), (3, 7), (3, 8), (3, 9), (3, 10)], 0⟩),
  (85, ⟨true, cBridge, [(3, 0), (9, 1), (79, 2), (80, 3), (83, 4), (3, 6), (3, 7), (3, 8), (3, 9), (3, 10)], 0⟩),
  (86, ⟨false, .one (.sl cBind), [], 166⟩),
  (95, ⟨false, .one (.sl cBridge), [], 85⟩),
  (96, ⟨false, .one (.sl (.cons (.int .i64) (.cons (.int .i64) (.cons (.int .i64) (.one (.int .i64)))))), [], 272⟩),
  (97, ⟨false, .one (.sl (.cons (.int .i64) (.cons .bool (.cons (.int .i64) (.cons (.int .i64) (.cons (.int .i64) (.cons (.int .i64) (.one (.int .i64))))))))), [], 275⟩),
  (98, ⟨true, .cons (.sl cBridge) (.cons (.sl (.cons (.int .i64) (.cons (.int .i64) (.cons (.int .i64) (.one (.int .i64)))))) (.one (.sl (.cons (.int .i64) (.cons .bool (.cons (.int .i64) (.cons (.int .i64) (.cons (.int .i64) (.cons (.int .i64) (.one (.int .i64))))))))))), [(95, 0), (96, 1), (97, 2)], 0⟩),
  (99, ⟨true, .cons (.sl cBridge) (.cons (.sl (.cons (.int .i64) (.cons (.int .i64) (.cons (.int .i64) (.one (.int .i64)))))) (.one (.sl (.cons (.int .i64) (.cons .bool (.cons (.int .i64) (.cons (.int .i64) (.cons (.int .i64) (.cons (.int .i64) (.one (.int .i64))))))))))), [(95, 0), (96, 1), (97, 2)], 0⟩),
  (102, ⟨false, .one (.sl cBridge), [], 31⟩),
  (103, ⟨false, .one (.sl (.cons (.int .i64) (.cons (.int .i64) (.cons (.int .i64) (.one (.int .i64)))))), [], 202⟩),
  (104, ⟨false, .one (.sl (.cons (.int .i64) (.cons .bool (.cons (.int .i64) (.cons (.int .i64) (.cons (.int .i64) (.cons (.int .i64) (.one (.int .i64))))))))), [], 199⟩),
  (105, ⟨true, .cons (.sl cBridge) (.cons (.sl (.cons (.int .i64) (.cons (.int .i64) (.cons (.int .i64) (.one (.int .i64)))))) (.one (.sl (.cons (.int .i64) (.cons .bool (.cons (.int .i64) (.cons (.int .i64) (.cons (.int .i64) (.cons (.int .i64) (.one (.int .i64))))))))))), [(102, 0), (103, 1), (104, 2)], 0⟩),
  (106, ⟨true, .cons (.sl cBridge) (.cons (.sl (.cons (.int .i64) (.cons (.int .i64) (.cons (.int .i64) (.one (.int .i64)))))) (.one (.sl (.cons (.int .i64) (.cons .bool (.cons (.int .i64) (.cons (.int .i64) (.cons (.int .i64) (.cons (.int .i64) (.one (.int .i64))))))))))), [(102, 0), (103, 1), (104, 2)], 0⟩),
  (110, ⟨false, .one (.sl cJob), [], 282⟩),
  (111, ⟨true, cAgent, [(85, 0), (9, 11), (110, 12), (3, 13), (3, 14)], 0⟩),
  (112, ⟨true, cAgent, [(85, 0), (9, 11), (110, 12), (3, 13), (3, 14)], 0⟩),
  (138, ⟨true, cVec, [(3, 0), (3, 1), (3, 2), (3, 3), (3, 4)], 0⟩),
  (139, ⟨true, cVec, [(3, 0), (3, 1), (3, 2), (3, 3), (3, 4)], 0⟩),
  (140, ⟨true, cPt, [(4, 0), (3, 1), (4, 2), (139, 3)], 0⟩),
  (141, ⟨true, cPt, [(4, 0), (3, 1), (4, 2), (139, 3)], 0⟩),
  (142, ⟨true, cFent, [(3, 0), (3, 1), (3, 2), (3, 3), (4, 4)], 0⟩),
  (143, ⟨true, cFent, [(3, 0), (3, 1), (3, 2), (3, 3), (4, 4)], 0⟩),
  (164, ⟨true, cVal, [(3, 0), (3, 1), (9, 2), (27, 3)], 0⟩),
  (165, ⟨true, cBind, [(27, 0), (164, 1)], 0⟩),
  (166, ⟨true, cBind, [(27, 0), (164, 1)], 0⟩),
  (198, ⟨true, .cons (.int .i64) (.cons .bool (.cons (.int .i64) (.cons (.int .i64) (.cons (.int .i64) (.cons (.int .i64) (.one (.int .i64))))))), [(3, 0), (4, 1), (139, 2)], 0⟩),
  (199, ⟨true, .cons (.int .i64) (.cons .bool (.cons (.int .i64) (.cons (.int .i64) (.cons (.int .i64) (.cons (.int .i64) (.one (.int .i64))))))), [(3, 0), (4, 1), (139, 2)], 0⟩),
  (201, ⟨true, .cons (.int .i64) (.cons (.int .i64) (.cons (.int .i64) (.one (.int .i64)))), [(3, 0), (3, 1), (3, 2), (3, 3)], 0⟩),
  (202, ⟨true, .cons (.int .i64) (.cons (.int .i64) (.cons (.int .i64) (.one (.int .i64)))), [(3, 0), (3, 1), (3, 2), (3, 3)], 0⟩),
  (210, ⟨true, .cons (.sl (.one (.int .u8))) (.cons (.int .i64) (.one (.int .i64))), [(22, 0), (3, 1), (3, 2)], 0⟩),
  (211, ⟨true, .cons (.sl (.one (.int .u8))) (.cons (.int .i64) (.one (.int .i64))), [(22, 0), (3, 1), (3, 2)], 0⟩),
  (214, ⟨false, .one (.sl (.one .str)), [], 9⟩),
  (226, ⟨false, .one (.sl (.one (.sl (.one (.int .i64))))), [], 27⟩),
  (231, ⟨true, cVrow, [(3, 0), (3, 1), (3, 2)], 0⟩),
  (232, ⟨true, cVrow, [(3, 0), (3, 1), (3, 2)], 0⟩),
  (242, ⟨false, .one (.int .u64), [], 0⟩),
  (259, ⟨true, cVec, [(3, 0), (3, 1), (3, 2), (3, 3), (3, 4)], 0⟩),
  (260, ⟨true, cPt, [(4, 0), (3, 1), (4, 2), (259, 3)], 0⟩),
  (261, ⟨true, cPt, [(4, 0), (3, 1), (4, 2), (259, 3)], 0⟩),
  (263, ⟨true, cFent, [(3, 0), (3, 1), (3, 2), (3, 3), (4, 4)], 0⟩),
  (272, ⟨true, .cons (.int .i64) (.cons (.int .i64) (.cons (.int .i64) (.one (.int .i64)))), [(3, 0), (3, 1), (3, 2), (3, 3)], 0⟩),
  (274, ⟨true, .cons (.int .i64) (.cons .bool (.cons (.int .i64) (.cons (.int .i64) (.cons (.int .i64) (.cons (.int .i64) (.one (.int .i64))))))), [(3, 0), (4, 1), (259, 2)], 0⟩),
  (275, ⟨true, .cons (.int .i64) (.cons .bool (.cons (.int .i64) (.cons (.int .i64) (.cons (.int .i64) (.cons (.int .i64) (.one (.int .i64))))))), [(3, 0), (4, 1), (259, 2)], 0⟩),
  (279, ⟨true, cPdu, [(3, 0), (3, 1), (3, 2), (3, 3), (86, 4)], 0⟩),
  (280, ⟨true, cPdu, [(3, 0), (3, 1), (3, 2), (3, 3), (86, 4)], 0⟩),
  (281, ⟨true, cJob, [(3, 0), (22, 1), (3, 2), (280, 3), (85, 8), (3, 19), (3, 20)], 0⟩),
  (282, ⟨true, cJob, [(3, 0), (22, 1), (3, 2), (280, 3), (85, 8), (3, 19), (3, 20)], 0⟩),
  (287, ⟨true, cL4Reader, [(22, 0), (3, 1), (4, 2)], 0⟩),
  (288, ⟨true, cL4Reader, [(22, 0), (3, 1), (4, 2)], 0⟩),
  (299, ⟨false, .one (.sl (.one .bool)), [], 4⟩),
  (326, ⟨true, cVrow, [(3, 0), (3, 1), (3, 2)], 0⟩),
  (337, ⟨true, cL4Reader, [(22, 0), (3, 1), (4, 2)], 0⟩),
  (338, ⟨true, cL4Reader, [(22, 0), (3, 1), (4, 2)], 0⟩),
  (345, ⟨true, .cons (.int .i64) (.one (.int .i64)), [(3, 0), (3, 1)], 0⟩),
  (346, ⟨true, .cons (.int .i64) (.one (.int .i64)), [(3, 0), (3, 1)], 0⟩),
  (364, ⟨false, .one (.int .i8), [], 0⟩),
  (374, ⟨false, .one (.int .u32), [], 0⟩),
  (375, ⟨false, .one (.int .u8), [], 0⟩),
  (376, ⟨false, .one (.int .u8), [], 0⟩),
  (379, ⟨false, .one (.int .i32), [], 0⟩),
  (380, ⟨false, .one (.int .i32), [], 0⟩)]
theorem tisT : Tis Tryz.prog tis := Tis.of_all (by kernel_rfl)
theorem tisE : Eqs Tryz.prog tis := Eqs.of_all (by kernel_rfl)
theorem tisD : Deep Tryz.prog tis := Deep.of_all (by kernel_rfl)
theorem mixed : Tryz.prog.follows .mixedOrders = true := by kernel_rfl
def codeOf (fn : Func) : Code := match fn.body with | some c => c | none => .skip
theorem g_0 : Good Tryz.prog ⟨tis, [], [], false⟩ := ⟨tisT, tisE, (fun f F h => by cases h), (fun f M h => by cases h), (fun h => by cases h)⟩
noncomputable def laws_szPtS (a0 : List Pt) (left1 : Int) : Option Int :=
  let left1_1 := w64 (left1 - (a0.length : Int))
  cond (decide (left1_1 < 0)) (some (-1)) (some left1_1)
noncomputable def F_laws_szPtS : Fn := ⟨[.val false (.one (.sl cPt)) false, .val false (.one (.int .i64)) false], [.val false (.one (.int .i64)) true], fun a => laws_szPtS a.1 a.2⟩
def a_laws_szPtS : List (Nat × LoopAnn) := []
theorem e_laws_szPtS : fnDen ⟨tis, [], [], false⟩ a_laws_szPtS Tryz.f117 (codeOf Tryz.f117) [.val false (.one (.sl cPt)) false, .val false (.one (.int .i64)) false] [.val false (.one (.int .i64)) true] = fun a => laws_szPtS a.1 a.2 := by kernel_rfl
theorem m_laws_szPtS : Meets Tryz.prog 117 F_laws_szPtS := by
  have h := meets_of (ann := a_laws_szPtS) (ps := [.val false (.one (.sl cPt)) false, .val false (.one (.int .i64)) false]) (rs := [.val false (.one (.int .i64)) true]) g_0 mixed Tryz.func117 (by kernel_rfl) (by kernel_rfl : Tryz.f117.body = some (codeOf Tryz.f117))
  rw [e_laws_szPtS] at h
  exact h
noncomputable def fns_117 : List (FuncId × Fn) := (117, F_laws_szPtS) :: []
theorem g_117 : Good Tryz.prog ⟨tis, fns_117, [], false⟩ := g_0.cons m_laws_szPtS
noncomputable def laws_szFentS (a0 : List Fent) (left1 : Int) : Option Int :=
  let left1_1 := w64 (left1 - (a0.length : Int))
  cond (decide (left1_1 < 0)) (some (-1)) (some left1_1)
noncomputable def F_laws_szFentS : Fn := ⟨[.val false (.one (.sl cFent)) false, .val false (.one (.int .i64)) false], [.val false (.one (.int .i64)) true], fun a => laws_szFentS a.1 a.2⟩
def a_laws_szFentS : List (Nat × LoopAnn) := []
theorem e_laws_szFentS : fnDen ⟨tis, fns_117, [], false⟩ a_laws_szFentS Tryz.f118 (codeOf Tryz.f118) [.val false (.one (.sl cFent)) false, .val false (.one (.int .i64)) false] [.val false (.one (.int .i64)) true] = fun a => laws_szFentS a.1 a.2 := by kernel_rfl
theorem m_laws_szFentS : Meets Tryz.prog 118 F_laws_szFentS := by
  have h := meets_of (ann := a_laws_szFentS) (ps := [.val false (.one (.sl cFent)) false, .val false (.one (.int .i64)) false]) (rs := [.val false (.one (.int .i64)) true]) g_117 mixed Tryz.func118 (by kernel_rfl) (by kernel_rfl : Tryz.f118.body = some (codeOf Tryz.f118))
  rw [e_laws_szFentS] at h
  exact h
noncomputable def fns_118 : List (FuncId × Fn) := (118, F_laws_szFentS) :: fns_117
theorem g_118 : Good Tryz.prog ⟨tis, fns_118, [], false⟩ := g_117.cons m_laws_szFentS
noncomputable def laws_szVrowS (a0 : List Vrow) (left1 : Int) : Option Int :=
  let left1_1 := w64 (left1 - (a0.length : Int))
  cond (decide (left1_1 < 0)) (some (-1)) (some left1_1)
noncomputable def F_laws_szVrowS : Fn := ⟨[.val false (.one (.sl cVrow)) false, .val false (.one (.int .i64)) false], [.val false (.one (.int .i64)) true], fun a => laws_szVrowS a.1 a.2⟩
def a_laws_szVrowS : List (Nat × LoopAnn) := []
theorem e_laws_szVrowS : fnDen ⟨tis, fns_118, [], false⟩ a_laws_szVrowS Tryz.f237 (codeOf Tryz.f237) [.val false (.one (.sl cVrow)) false, .val false (.one (.int .i64)) false] [.val false (.one (.int .i64)) true] = fun a => laws_szVrowS a.1 a.2 := by kernel_rfl
theorem m_laws_szVrowS : Meets Tryz.prog 237 F_laws_szVrowS := by
  have h := meets_of (ann := a_laws_szVrowS) (ps := [.val false (.one (.sl cVrow)) false, .val false (.one (.int .i64)) false]) (rs := [.val false (.one (.int .i64)) true]) g_118 mixed Tryz.func237 (by kernel_rfl) (by kernel_rfl : Tryz.f237.body = some (codeOf Tryz.f237))
  rw [e_laws_szVrowS] at h
  exact h
noncomputable def fns_237 : List (FuncId × Fn) := (237, F_laws_szVrowS) :: fns_118
theorem g_237 : Good Tryz.prog ⟨tis, fns_237, [], false⟩ := g_118.cons m_laws_szVrowS
noncomputable def laws_szIntS (a0 : List Int) (left1 : Int) : Option Int :=
  let left1_1 := w64 (left1 - (a0.length : Int))
  cond (decide (left1_1 < 0)) (some (-1)) (some left1_1)
noncomputable def F_laws_szIntS : Fn := ⟨[.val false (.one (.sl (.one (.int .i64)))) false, .val false (.one (.int .i64)) false], [.val false (.one (.int .i64)) true], fun a => laws_szIntS a.1 a.2⟩
def a_laws_szIntS : List (Nat × LoopAnn) := []
theorem e_laws_szIntS : fnDen ⟨tis, fns_237, [], false⟩ a_laws_szIntS Tryz.f238 (codeOf Tryz.f238) [.val false (.one (.sl (.one (.int .i64)))) false, .val false (.one (.int .i64)) false] [.val false (.one (.int .i64)) true] = fun a => laws_szIntS a.1 a.2 := by kernel_rfl
theorem m_laws_szIntS : Meets Tryz.prog 238 F_laws_szIntS := by
  have h := meets_of (ann := a_laws_szIntS) (ps := [.val false (.one (.sl (.one (.int .i64)))) false, .val false (.one (.int .i64)) false]) (rs := [.val false (.one (.int .i64)) true]) g_237 mixed Tryz.func238 (by kernel_rfl) (by kernel_rfl : Tryz.f238.body = some (codeOf Tryz.f238))
  rw [e_laws_szIntS] at h
  exact h
noncomputable def fns_238 : List (FuncId × Fn) := (238, F_laws_szIntS) :: fns_237
theorem g_238 : Good Tryz.prog ⟨tis, fns_238, [], false⟩ := g_237.cons m_laws_szIntS
noncomputable def laws_szVtab (a0 : Vtab) (left1 : Int) : Option Int :=
  (laws_szVrowS a0.1 left1).bind fun t8 =>
  cond (decide (t8 < 0))
    (some (-1))
    ((laws_szIntS a0.2 t8).bind fun t14 =>
    cond (decide (t14 < 0)) (some (-1)) (some t14))
noncomputable def F_laws_szVtab : Fn := ⟨[.val true cVtab false, .val false (.one (.int .i64)) false], [.val false (.one (.int .i64)) true], fun a => laws_szVtab a.1 a.2⟩
def a_laws_szVtab : List (Nat × LoopAnn) := []
theorem e_laws_szVtab : fnDen ⟨tis, fns_238, [], false⟩ a_laws_szVtab Tryz.f119 (codeOf Tryz.f119) [.val true cVtab false, .val false (.one (.int .i64)) false] [.val false (.one (.int .i64)) true] = fun a => laws_szVtab a.1 a.2 := by kernel_rfl
theorem m_laws_szVtab : Meets Tryz.prog 119 F_laws_szVtab := by
  have h := meets_of (ann := a_laws_szVtab) (ps := [.val true cVtab false, .val false (.one (.int .i64)) false]) (rs := [.val false (.one (.int .i64)) true]) g_238 mixed Tryz.func119 (by kernel_rfl) (by kernel_rfl : Tryz.f119.body = some (codeOf Tryz.f119))
  rw [e_laws_szVtab] at h
  exact h
noncomputable def fns_119 : List (FuncId × Fn) := (119, F_laws_szVtab) :: fns_238
theorem g_119 : Good Tryz.prog ⟨tis, fns_119, [], false⟩ := g_238.cons m_laws_szVtab
noncomputable def laws_szBridge (a0 : Bridge) (left1 : Int) : Option Int :=
  let left1_1 := w64 (left1 - (a0.2.1.length : Int))
  cond (decide (left1_1 < 0))
    (some (-1))
    ((laws_szPtS a0.2.2.1 left1_1).bind fun t15 =>
    cond (decide (t15 < 0))
      (some (-1))
      ((laws_szFentS a0.2.2.2.1 t15).bind fun t21 =>
      cond (decide (t21 < 0))
        (some (-1))
        ((laws_szVtab (a0.2.2.2.2.1, a0.2.2.2.2.2.1) t21).bind fun t27 =>
        cond (decide (t27 < 0)) (some (-1)) (some t27))))
noncomputable def F_laws_szBridge : Fn := ⟨[.val true cBridge false, .val false (.one (.int .i64)) false], [.val false (.one (.int .i64)) true], fun a => laws_szBridge a.1 a.2⟩
def a_laws_szBridge : List (Nat × LoopAnn) := []
theorem e_laws_szBridge : fnDen ⟨tis, fns_119, [], false⟩ a_laws_szBridge Tryz.f40 (codeOf Tryz.f40) [.val true cBridge false, .val false (.one (.int .i64)) false] [.val false (.one (.int .i64)) true] = fun a => laws_szBridge a.1 a.2 := by kernel_rfl
theorem m_laws_szBridge : Meets Tryz.prog 40 F_laws_szBridge := by
  have h := meets_of (ann := a_laws_szBridge) (ps := [.val true cBridge false, .val false (.one (.int .i64)) false]) (rs := [.val false (.one (.int .i64)) true]) g_119 mixed Tryz.func40 (by kernel_rfl) (by kernel_rfl : Tryz.f40.body = some (codeOf Tryz.f40))
  rw [e_laws_szBridge] at h
  exact h
noncomputable def fns_40 : List (FuncId × Fn) := (40, F_laws_szBridge) :: fns_119
theorem g_40 : Good Tryz.prog ⟨tis, fns_40, [], false⟩ := g_119.cons m_laws_szBridge
noncomputable def laws_szByteS (a0 : List Int) (left1 : Int) : Option Int :=
  let left1_1 := w64 (left1 - (a0.length : Int))
  cond (decide (left1_1 < 0)) (some (-1)) (some left1_1)
noncomputable def F_laws_szByteS : Fn := ⟨[.val false (.one (.sl (.one (.int .u8)))) false, .val false (.one (.int .i64)) false], [.val false (.one (.int .i64)) true], fun a => laws_szByteS a.1 a.2⟩
def a_laws_szByteS : List (Nat × LoopAnn) := []
theorem e_laws_szByteS : fnDen ⟨tis, fns_40, [], false⟩ a_laws_szByteS Tryz.f327 (codeOf Tryz.f327) [.val false (.one (.sl (.one (.int .u8)))) false, .val false (.one (.int .i64)) false] [.val false (.one (.int .i64)) true] = fun a => laws_szByteS a.1 a.2 := by kernel_rfl
theorem m_laws_szByteS : Meets Tryz.prog 327 F_laws_szByteS := by
  have h := meets_of (ann := a_laws_szByteS) (ps := [.val false (.one (.sl (.one (.int .u8)))) false, .val false (.one (.int .i64)) false]) (rs := [.val false (.one (.int .i64)) true]) g_40 mixed Tryz.func327 (by kernel_rfl) (by kernel_rfl : Tryz.f327.body = some (codeOf Tryz.f327))
  rw [e_laws_szByteS] at h
  exact h
noncomputable def fns_327 : List (FuncId × Fn) := (327, F_laws_szByteS) :: fns_40
theorem g_327 : Good Tryz.prog ⟨tis, fns_327, [], false⟩ := g_40.cons m_laws_szByteS
noncomputable def laws_szVal (a0 : Val) (left1 : Int) : Option Int :=
  let left1_1 := w64 (left1 - (a0.2.2.1.length : Int))
  cond (decide (left1_1 < 0))
    (some (-1))
    ((laws_szIntS a0.2.2.2 left1_1).bind fun t15 =>
    cond (decide (t15 < 0)) (some (-1)) (some t15))
noncomputable def F_laws_szVal : Fn := ⟨[.val true cVal false, .val false (.one (.int .i64)) false], [.val false (.one (.int .i64)) true], fun a => laws_szVal a.1 a.2⟩
def a_laws_szVal : List (Nat × LoopAnn) := []
theorem e_laws_szVal : fnDen ⟨tis, fns_327, [], false⟩ a_laws_szVal Tryz.f239 (codeOf Tryz.f239) [.val true cVal false, .val false (.one (.int .i64)) false] [.val false (.one (.int .i64)) true] = fun a => laws_szVal a.1 a.2 := by kernel_rfl
theorem m_laws_szVal : Meets Tryz.prog 239 F_laws_szVal := by
  have h := meets_of (ann := a_laws_szVal) (ps := [.val true cVal false, .val false (.one (.int .i64)) false]) (rs := [.val false (.one (.int .i64)) true]) g_327 mixed Tryz.func239 (by kernel_rfl) (by kernel_rfl : Tryz.f239.body = some (codeOf Tryz.f239))
  rw [e_laws_szVal] at h
  exact h
noncomputable def fns_239 : List (FuncId × Fn) := (239, F_laws_szVal) :: fns_327
theorem g_239 : Good Tryz.prog ⟨tis, fns_239, [], false⟩ := g_327.cons m_laws_szVal
noncomputable def laws_szBind (a0 : Bind) (left1 : Int) : Option Int :=
  (laws_szIntS a0.1 left1).bind fun t8 =>
  cond (decide (t8 < 0))
    (some (-1))
    ((laws_szVal a0.2 t8).bind fun t14 =>
    cond (decide (t14 < 0)) (some (-1)) (some t14))
noncomputable def F_laws_szBind : Fn := ⟨[.val true cBind false, .val false (.one (.int .i64)) false], [.val false (.one (.int .i64)) true], fun a => laws_szBind a.1 a.2⟩
def a_laws_szBind : List (Nat × LoopAnn) := []
theorem e_laws_szBind : fnDen ⟨tis, fns_239, [], false⟩ a_laws_szBind Tryz.f120 (codeOf Tryz.f120) [.val true cBind false, .val false (.one (.int .i64)) false] [.val false (.one (.int .i64)) true] = fun a => laws_szBind a.1 a.2 := by kernel_rfl
theorem m_laws_szBind : Meets Tryz.prog 120 F_laws_szBind := by
  have h := meets_of (ann := a_laws_szBind) (ps := [.val true cBind false, .val false (.one (.int .i64)) false]) (rs := [.val false (.one (.int .i64)) true]) g_239 mixed Tryz.func120 (by kernel_rfl) (by kernel_rfl : Tryz.f120.body = some (codeOf Tryz.f120))
  rw [e_laws_szBind] at h
  exact h
noncomputable def fns_120 : List (FuncId × Fn) := (120, F_laws_szBind) :: fns_239
theorem g_120 : Good Tryz.prog ⟨tis, fns_120, [], false⟩ := g_239.cons m_laws_szBind
noncomputable def laws_szBindS_l0 (a0 : List Bind) (left1_2 : Int) (i5 : Int) : Option ((Int × Int) ⊕ (Int ⊕ Int)) :=
  cond (decide (i5 < (a0.length : Int)))
    ((at? a0 i5).bind fun x20 =>
    (laws_szBind x20 left1_2).bind fun t23 =>
    cond (decide (t23 < 0)) (some (.inr (.inr (-1)))) (some (.inl (t23, w64 (i5 + 1)))))
    (some (.inr (.inl left1_2)))
noncomputable def laws_szBindS (a0 : List Bind) (left1 : Int) : Option Int :=
  let left1_1 := w64 (left1 - (a0.length : Int))
  cond (decide (left1_1 < 0))
    (some (-1))
    ((loop (fun z => laws_szBindS_l0 a0 z.1 z.2) (left1_1, 0)).bind (Sum.elim (fun d =>
      some d) (fun r => some r)))
noncomputable def F_laws_szBindS : Fn := ⟨[.val false (.one (.sl cBind)) false, .val false (.one (.int .i64)) false], [.val false (.one (.int .i64)) true], fun a => laws_szBindS a.1 a.2⟩
def a_laws_szBindS : List (Nat × LoopAnn) := [(0, ⟨⟨[(1, false, [.dat (.int .i64)]), (5, false, [.dat (.int .i64)])], []⟩,
    ⟨[(1, false, [.dat (.int .i64)])], []⟩, some ⟨[(4, false, [.dat (.int .i64)])], []⟩⟩)]
theorem e_laws_szBindS : fnDen ⟨tis, fns_120, [], false⟩ a_laws_szBindS Tryz.f41 (codeOf Tryz.f41) [.val false (.one (.sl cBind)) false, .val false (.one (.int .i64)) false] [.val false (.one (.int .i64)) true] = fun a => laws_szBindS a.1 a.2 := by kernel_rfl
theorem m_laws_szBindS : Meets Tryz.prog 41 F_laws_szBindS := by
  have h := meets_of (ann := a_laws_szBindS) (ps := [.val false (.one (.sl cBind)) false, .val false (.one (.int .i64)) false]) (rs := [.val false (.one (.int .i64)) true]) g_120 mixed Tryz.func41 (by kernel_rfl) (by kernel_rfl : Tryz.f41.body = some (codeOf Tryz.f41))
  rw [e_laws_szBindS] at h
  exact h
noncomputable def fns_41 : List (FuncId × Fn) := (41, F_laws_szBindS) :: fns_120
theorem g_41 : Good Tryz.prog ⟨tis, fns_41, [], false⟩ := g_120.cons m_laws_szBindS
noncomputable def laws_szPdu (a0 : Pdu) (left1 : Int) : Option Int :=
  (laws_szBindS a0.2.2.2.2 left1).bind fun t8 =>
  cond (decide (t8 < 0)) (some (-1)) (some t8)
noncomputable def F_laws_szPdu : Fn := ⟨[.val true cPdu false, .val false (.one (.int .i64)) false], [.val false (.one (.int .i64)) true], fun a => laws_szPdu a.1 a.2⟩
def a_laws_szPdu : List (Nat × LoopAnn) := []
theorem e_laws_szPdu : fnDen ⟨tis, fns_41, [], false⟩ a_laws_szPdu Tryz.f328 (codeOf Tryz.f328) [.val true cPdu false, .val false (.one (.int .i64)) false] [.val false (.one (.int .i64)) true] = fun a => laws_szPdu a.1 a.2 := by kernel_rfl
theorem m_laws_szPdu : Meets Tryz.prog 328 F_laws_szPdu := by
  have h := meets_of (ann := a_laws_szPdu) (ps := [.val true cPdu false, .val false (.one (.int .i64)) false]) (rs := [.val false (.one (.int .i64)) true]) g_41 mixed Tryz.func328 (by kernel_rfl) (by kernel_rfl : Tryz.f328.body = some (codeOf Tryz.f328))
  rw [e_laws_szPdu] at h
  exact h
noncomputable def fns_328 : List (FuncId × Fn) := (328, F_laws_szPdu) :: fns_41
theorem g_328 : Good Tryz.prog ⟨tis, fns_328, [], false⟩ := g_41.cons m_laws_szPdu
noncomputable def laws_szJob (a0 : Job) (left1 : Int) : Option Int :=
  (laws_szByteS a0.2.1 left1).bind fun t8 =>
  cond (decide (t8 < 0))
    (some (-1))
    ((laws_szPdu (a0.2.2.2.1, a0.2.2.2.2.1, a0.2.2.2.2.2.1, a0.2.2.2.2.2.2.1, a0.2.2.2.2.2.2.2.1) t8).bind fun t14 =>
    cond (decide (t14 < 0))
      (some (-1))
      ((laws_szBridge (a0.2.2.2.2.2.2.2.2.1, a0.2.2.2.2.2.2.2.2.2.1, a0.2.2.2.2.2.2.2.2.2.2.1, a0.2.2.2.2.2.2.2.2.2.2.2.1, a0.2.2.2.2.2.2.2.2.2.2.2.2.1, a0.2.2.2.2.2.2.2.2.2.2.2.2.2.1, a0.2.2.2.2.2.2.2.2.2.2.2.2.2.2.1, a0.2.2.2.2.2.2.2.2.2.2.2.2.2.2.2.1, a0.2.2.2.2.2.2.2.2.2.2.2.2.2.2.2.2.1, a0.2.2.2.2.2.2.2.2.2.2.2.2.2.2.2.2.2.1, a0.2.2.2.2.2.2.2.2.2.2.2.2.2.2.2.2.2.2.1) t14).bind fun t20 =>
      cond (decide (t20 < 0)) (some (-1)) (some t20)))
noncomputable def F_laws_szJob : Fn := ⟨[.val true cJob false, .val false (.one (.int .i64)) false], [.val false (.one (.int .i64)) true], fun a => laws_szJob a.1 a.2⟩
def a_laws_szJob : List (Nat × LoopAnn) := []
theorem e_laws_szJob : fnDen ⟨tis, fns_328, [], false⟩ a_laws_szJob Tryz.f261 (codeOf Tryz.f261) [.val true cJob false, .val false (.one (.int .i64)) false] [.val false (.one (.int .i64)) true] = fun a => laws_szJob a.1 a.2 := by kernel_rfl
theorem m_laws_szJob : Meets Tryz.prog 261 F_laws_szJob := by
  have h := meets_of (ann := a_laws_szJob) (ps := [.val true cJob false, .val false (.one (.int .i64)) false]) (rs := [.val false (.one (.int .i64)) true]) g_328 mixed Tryz.func261 (by kernel_rfl) (by kernel_rfl : Tryz.f261.body = some (codeOf Tryz.f261))
  rw [e_laws_szJob] at h
  exact h
noncomputable def fns_261 : List (FuncId × Fn) := (261, F_laws_szJob) :: fns_328
theorem g_261 : Good Tryz.prog ⟨tis, fns_261, [], false⟩ := g_328.cons m_laws_szJob
noncomputable def laws_szJobS_l0 (a0 : List Job) (left1_2 : Int) (i5 : Int) : Option ((Int × Int) ⊕ (Int ⊕ Int)) :=
  cond (decide (i5 < (a0.length : Int)))
    ((at? a0 i5).bind fun x20 =>
    (laws_szJob x20 left1_2).bind fun t23 =>
    cond (decide (t23 < 0)) (some (.inr (.inr (-1)))) (some (.inl (t23, w64 (i5 + 1)))))
    (some (.inr (.inl left1_2)))
noncomputable def laws_szJobS (a0 : List Job) (left1 : Int) : Option Int :=
  let left1_1 := w64 (left1 - (a0.length : Int))
  cond (decide (left1_1 < 0))
    (some (-1))
    ((loop (fun z => laws_szJobS_l0 a0 z.1 z.2) (left1_1, 0)).bind (Sum.elim (fun d =>
      some d) (fun r => some r)))
noncomputable def F_laws_szJobS : Fn := ⟨[.val false (.one (.sl cJob)) false, .val false (.one (.int .i64)) false], [.val false (.one (.int .i64)) true], fun a => laws_szJobS a.1 a.2⟩
def a_laws_szJobS : List (Nat × LoopAnn) := [(0, ⟨⟨[(1, false, [.dat (.int .i64)]), (5, false, [.dat (.int .i64)])], []⟩,
    ⟨[(1, false, [.dat (.int .i64)])], []⟩, some ⟨[(4, false, [.dat (.int .i64)])], []⟩⟩)]
theorem e_laws_szJobS : fnDen ⟨tis, fns_261, [], false⟩ a_laws_szJobS Tryz.f148 (codeOf Tryz.f148) [.val false (.one (.sl cJob)) false, .val false (.one (.int .i64)) false] [.val false (.one (.int .i64)) true] = fun a => laws_szJobS a.1 a.2 := by kernel_rfl
theorem m_laws_szJobS : Meets Tryz.prog 148 F_laws_szJobS := by
  have h := meets_of (ann := a_laws_szJobS) (ps := [.val false (.one (.sl cJob)) false, .val false (.one (.int .i64)) false]) (rs := [.val false (.one (.int .i64)) true]) g_261 mixed Tryz.func148 (by kernel_rfl) (by kernel_rfl : Tryz.f148.body = some (codeOf Tryz.f148))
  rw [e_laws_szJobS] at h
  exact h
noncomputable def fns_148 : List (FuncId × Fn) := (148, F_laws_szJobS) :: fns_261
theorem g_148 : Good Tryz.prog ⟨tis, fns_148, [], false⟩ := g_261.cons m_laws_szJobS
noncomputable def laws_szAgent (a0 : Agent) (left1 : Int) : Option Int :=
  (laws_szBridge (a0.1, a0.2.1, a0.2.2.1, a0.2.2.2.1, a0.2.2.2.2.1, a0.2.2.2.2.2.1, a0.2.2.2.2.2.2.1, a0.2.2.2.2.2.2.2.1, a0.2.2.2.2.2.2.2.2.1, a0.2.2.2.2.2.2.2.2.2.1, a0.2.2.2.2.2.2.2.2.2.2.1) left1).bind fun t8 =>
  cond (decide (t8 < 0))
    (some (-1))
    (let left1_1 := w64 (t8 - (a0.2.2.2.2.2.2.2.2.2.2.2.1.length : Int))
    cond (decide (left1_1 < 0))
      (some (-1))
      ((laws_szJobS a0.2.2.2.2.2.2.2.2.2.2.2.2.1 left1_1).bind fun t21 =>
      cond (decide (t21 < 0)) (some (-1)) (some t21)))
noncomputable def F_laws_szAgent : Fn := ⟨[.val true cAgent false, .val false (.one (.int .i64)) false], [.val false (.one (.int .i64)) true], fun a => laws_szAgent a.1 a.2⟩
def a_laws_szAgent : List (Nat × LoopAnn) := []
theorem e_laws_szAgent : fnDen ⟨tis, fns_148, [], false⟩ a_laws_szAgent Tryz.f54 (codeOf Tryz.f54) [.val true cAgent false, .val false (.one (.int .i64)) false] [.val false (.one (.int .i64)) true] = fun a => laws_szAgent a.1 a.2 := by kernel_rfl
theorem m_laws_szAgent : Meets Tryz.prog 54 F_laws_szAgent := by
  have h := meets_of (ann := a_laws_szAgent) (ps := [.val true cAgent false, .val false (.one (.int .i64)) false]) (rs := [.val false (.one (.int .i64)) true]) g_148 mixed Tryz.func54 (by kernel_rfl) (by kernel_rfl : Tryz.f54.body = some (codeOf Tryz.f54))
  rw [e_laws_szAgent] at h
  exact h
noncomputable def fns_54 : List (FuncId × Fn) := (54, F_laws_szAgent) :: fns_148
theorem g_54 : Good Tryz.prog ⟨tis, fns_54, [], false⟩ := g_148.cons m_laws_szAgent
noncomputable def spec_l1In (x0 : Int) (least1 : Int) (most2 : Int) : Option Bool :=
  (cond (decide (x0 ≥ least1)) (some (decide (x0 ≤ most2))) (some false)).bind fun t14 =>
  some t14
noncomputable def F_spec_l1In : Fn := ⟨[.val false (.one (.int .i64)) false, .val false (.one (.int .i64)) false, .val false (.one (.int .i64)) false], [.val false (.one .bool) true], fun a => spec_l1In a.1 a.2.1 a.2.2⟩
def a_spec_l1In : List (Nat × LoopAnn) := []
theorem e_spec_l1In : fnDen ⟨tis, fns_54, [], false⟩ a_spec_l1In Tryz.f150 (codeOf Tryz.f150) [.val false (.one (.int .i64)) false, .val false (.one (.int .i64)) false, .val false (.one (.int .i64)) false] [.val false (.one .bool) true] = fun a => spec_l1In a.1 a.2.1 a.2.2 := by kernel_rfl
theorem m_spec_l1In : Meets Tryz.prog 150 F_spec_l1In := by
  have h := meets_of (ann := a_spec_l1In) (ps := [.val false (.one (.int .i64)) false, .val false (.one (.int .i64)) false, .val false (.one (.int .i64)) false]) (rs := [.val false (.one .bool) true]) g_54 mixed Tryz.func150 (by kernel_rfl) (by kernel_rfl : Tryz.f150.body = some (codeOf Tryz.f150))
  rw [e_spec_l1In] at h
  exact h
noncomputable def fns_150 : List (FuncId × Fn) := (150, F_spec_l1In) :: fns_54
theorem g_150 : Good Tryz.prog ⟨tis, fns_150, [], false⟩ := g_54.cons m_spec_l1In
noncomputable def spec_RowAt_l0 (v0 : Vtab) (id1 : Int) (i5 : Int) : Option (Int ⊕ (Unit ⊕ Int)) :=
  cond (decide (i5 < (v0.1.length : Int)))
    ((at? v0.1 i5).bind fun x16 =>
    cond (x16.1 == id1) (some (.inr (.inr i5))) (some (.inl (w64 (i5 + 1)))))
    (some (.inr (.inl ())))
noncomputable def spec_RowAt (v0 : Vtab) (id1 : Int) : Option Int :=
  (loop (fun z => spec_RowAt_l0 v0 id1 z) 0).bind (Sum.elim (fun d =>
    some (-1)) (fun r => some r))
noncomputable def F_spec_RowAt : Fn := ⟨[.val true cVtab false, .val false (.one (.int .i64)) false], [.val false (.one (.int .i64)) true], fun a => spec_RowAt a.1 a.2⟩
def a_spec_RowAt : List (Nat × LoopAnn) := [(0, ⟨⟨[(5, false, [.dat (.int .i64)])], []⟩,
    ⟨[], []⟩, some ⟨[(4, false, [.dat (.int .i64)])], []⟩⟩)]
theorem e_spec_RowAt : fnDen ⟨tis, fns_150, [], false⟩ a_spec_RowAt Tryz.f220 (codeOf Tryz.f220) [.val true cVtab false, .val false (.one (.int .i64)) false] [.val false (.one (.int .i64)) true] = fun a => spec_RowAt a.1 a.2 := by kernel_rfl
theorem m_spec_RowAt : Meets Tryz.prog 220 F_spec_RowAt := by
  have h := meets_of (ann := a_spec_RowAt) (ps := [.val true cVtab false, .val false (.one (.int .i64)) false]) (rs := [.val false (.one (.int .i64)) true]) g_150 mixed Tryz.func220 (by kernel_rfl) (by kernel_rfl : Tryz.f220.body = some (codeOf Tryz.f220))
  rw [e_spec_RowAt] at h
  exact h
noncomputable def fns_220 : List (FuncId × Fn) := (220, F_spec_RowAt) :: fns_150
theorem g_220 : Good Tryz.prog ⟨tis, fns_220, [], false⟩ := g_150.cons m_spec_RowAt
noncomputable def spec_VtabOk_l0 (p0 : Vtab) (t27 : Int) (t6 : Int) : Option (Int ⊕ (Unit ⊕ Bool)) :=
  cond (decide (t6 < (p0.1.length : Int)))
    ((at? p0.1 t6).bind fun x39 =>
    (spec_l1In x39.1 1 99).bind fun t43 =>
    (cond (!t43)
      (some true)
      ((spec_l1In x39.2.1 0 (w64 (t27 - 1))).bind fun t49 =>
      some (!t49))).bind fun t51 =>
    (cond t51
      (some true)
      ((spec_l1In x39.2.2 0 (w64 (t27 - 1))).bind fun t56 =>
      some (!t56))).bind fun t58 =>
    (cond t58 (some true) (some ((band .i64 x39.2.2 x39.2.1) != x39.2.2))).bind fun t68 =>
    (cond t68
      (some true)
      ((cond (decide (t6 > 0))
        ((at? p0.1 (w64 (t6 - 1))).bind fun x77 =>
        some (decide (x77.1 ≥ x39.1)))
        (some false)).bind fun t83 =>
      some t83)).bind fun t84 =>
    cond t84 (some (.inr (.inr false))) (some (.inl (w64 (t6 + 1)))))
    (some (.inr (.inl ())))
noncomputable def spec_VtabOk_l2 (p0 : Vtab) (t8 : Int) : Option (Int ⊕ (Unit ⊕ Bool)) :=
  cond (decide (t8 < (p0.2.length : Int)))
    ((at? p0.2 t8).bind fun x96 =>
    (spec_RowAt p0 x96).bind fun t98 =>
    cond (decide (t98 < 0)) (some (.inr (.inr false))) (some (.inl (w64 (t8 + 1)))))
    (some (.inr (.inl ())))
noncomputable def spec_VtabOk (p0 : Vtab) (i1 : Int) : Option Bool :=
  (spec_l1In i1 1 6).bind fun t10 =>
  (cond (!t10) (some true) (some ((p0.2.length : Int) != i1))).bind fun t18 =>
  (cond t18 (some true) (some (decide ((p0.1.length : Int) > 6)))).bind fun t24 =>
  cond t24
    (some false)
    ((shl .i64 1 (IntKind.u64.wrap (i1))).bind fun t27 =>
    (loop (fun z => spec_VtabOk_l0 p0 t27 z) 0).bind (Sum.elim (fun d =>
      (loop (fun z => spec_VtabOk_l2 p0 z) 0).bind (Sum.elim (fun d_1 =>
        some true) (fun r => some r))) (fun r_1 => some r_1)))
noncomputable def F_spec_VtabOk : Fn := ⟨[.val true cVtab false, .val false (.one (.int .i64)) false], [.val false (.one .bool) true], fun a => spec_VtabOk a.1 a.2⟩
def a_spec_VtabOk : List (Nat × LoopAnn) := [(0, ⟨⟨[(6, false, [.dat (.int .i64)]), (46, false, [.undef]), (47, false, [.undef]), (48, false, [.undef]), (49, false, [.undef]), (50, false, [.undef]), (53, false, [.undef]), (54, false, [.undef]), (55, false, [.undef]), (56, false, [.undef]), (57, false, [.undef]), (60, false, [.undef]), (61, false, [.undef]), (62, false, [.undef]), (63, false, [.undef]), (64, false, [.undef]), (65, false, [.undef]), (66, false, [.undef]), (67, false, [.undef]), (70, false, [.undef]), (71, false, [.undef]), (72, false, [.undef]), (73, false, [.undef]), (74, false, [.undef]), (75, false, [.undef]), (76, false, [.undef]), (77, false, [.undef]), (78, false, [.undef]), (79, false, [.undef]), (80, false, [.undef]), (81, false, [.undef]), (82, false, [.undef]), (83, false, [.undef])], []⟩,
    ⟨[], []⟩, some ⟨[(4, false, [.dat .bool])], []⟩⟩),
  (2, ⟨⟨[(8, false, [.dat (.int .i64)])], []⟩,
    ⟨[], []⟩, some ⟨[(4, false, [.dat .bool])], []⟩⟩)]
theorem e_spec_VtabOk : fnDen ⟨tis, fns_220, [], false⟩ a_spec_VtabOk Tryz.f97 (codeOf Tryz.f97) [.val true cVtab false, .val false (.one (.int .i64)) false] [.val false (.one .bool) true] = fun a => spec_VtabOk a.1 a.2 := by kernel_rfl
theorem m_spec_VtabOk : Meets Tryz.prog 97 F_spec_VtabOk := by
  have h := meets_of (ann := a_spec_VtabOk) (ps := [.val true cVtab false, .val false (.one (.int .i64)) false]) (rs := [.val false (.one .bool) true]) g_220 mixed Tryz.func97 (by kernel_rfl) (by kernel_rfl : Tryz.f97.body = some (codeOf Tryz.f97))
  rw [e_spec_VtabOk] at h
  exact h
noncomputable def fns_97 : List (FuncId × Fn) := (97, F_spec_VtabOk) :: fns_220
theorem g_97 : Good Tryz.prog ⟨tis, fns_97, [], false⟩ := g_220.cons m_spec_VtabOk
noncomputable def spec_VecOk (v0 : Vec) : Option Bool :=
  (spec_l1In v0.1 1 99).bind fun t5 =>
  (cond t5
    ((spec_l1In v0.2.1 0 100000).bind fun t9 =>
    some t9)
    (some false)).bind fun t10 =>
  (cond t10
    ((spec_l1In v0.2.2.1 0 10).bind fun t14 =>
    some t14)
    (some false)).bind fun t15 =>
  (cond t15
    ((spec_l1In v0.2.2.2.1 1 99).bind fun t19 =>
    some t19)
    (some false)).bind fun t20 =>
  (cond t20
    ((spec_l1In v0.2.2.2.2 0 7).bind fun t24 =>
    some t24)
    (some false)).bind fun t25 =>
  some t25
noncomputable def F_spec_VecOk : Fn := ⟨[.val true cVec false], [.val false (.one .bool) true], fun a => spec_VecOk a⟩
def a_spec_VecOk : List (Nat × LoopAnn) := []
theorem e_spec_VecOk : fnDen ⟨tis, fns_97, [], false⟩ a_spec_VecOk Tryz.f255 (codeOf Tryz.f255) [.val true cVec false] [.val false (.one .bool) true] = fun a => spec_VecOk a := by kernel_rfl
theorem m_spec_VecOk : Meets Tryz.prog 255 F_spec_VecOk := by
  have h := meets_of (ann := a_spec_VecOk) (ps := [.val true cVec false]) (rs := [.val false (.one .bool) true]) g_97 mixed Tryz.func255 (by kernel_rfl) (by kernel_rfl : Tryz.f255.body = some (codeOf Tryz.f255))
  rw [e_spec_VecOk] at h
  exact h
noncomputable def fns_255 : List (FuncId × Fn) := (255, F_spec_VecOk) :: fns_97
theorem g_255 : Good Tryz.prog ⟨tis, fns_255, [], false⟩ := g_97.cons m_spec_VecOk
noncomputable def spec_PtOk (p0 : Pt) : Option Bool :=
  (spec_l1In p0.2.1 1 1000).bind fun t5 =>
  (cond (!t5)
    (some true)
    ((cond (!p0.1) (some p0.2.2.1) (some false)).bind fun t14 =>
    some t14)).bind fun t15 =>
  cond t15
    (some false)
    (cond (!p0.2.2.1)
      (let t2 := p0.2.2.2.1 == 0 && (p0.2.2.2.2.1 == 0 && (p0.2.2.2.2.2.1 == 0 && (p0.2.2.2.2.2.2.1 == 0 && (p0.2.2.2.2.2.2.2 == 0))))
      some t2)
      ((spec_VecOk p0.2.2.2).bind fun t25 =>
      some t25))
noncomputable def F_spec_PtOk : Fn := ⟨[.val true cPt false], [.val false (.one .bool) true], fun a => spec_PtOk a⟩
def a_spec_PtOk : List (Nat × LoopAnn) := []
theorem e_spec_PtOk : fnDen ⟨tis, fns_255, [], false⟩ a_spec_PtOk Tryz.f213 (codeOf Tryz.f213) [.val true cPt false] [.val false (.one .bool) true] = fun a => spec_PtOk a := by kernel_rfl
theorem m_spec_PtOk : Meets Tryz.prog 213 F_spec_PtOk := by
  have h := meets_of (ann := a_spec_PtOk) (ps := [.val true cPt false]) (rs := [.val false (.one .bool) true]) g_255 mixed Tryz.func213 (by kernel_rfl) (by kernel_rfl : Tryz.f213.body = some (codeOf Tryz.f213))
  rw [e_spec_PtOk] at h
  exact h
noncomputable def fns_213 : List (FuncId × Fn) := (213, F_spec_PtOk) :: fns_255
theorem g_213 : Good Tryz.prog ⟨tis, fns_213, [], false⟩ := g_255.cons m_spec_PtOk
noncomputable def spec_l8Ent (e0 : Fent) : Option Bool :=
  (spec_l1In e0.1 1 99).bind fun t5 =>
  (cond t5
    ((spec_l1In e0.2.1 1 9999).bind fun t9 =>
    some t9)
    (some false)).bind fun t10 =>
  (cond t10
    ((spec_l1In e0.2.2.1 0 7).bind fun t14 =>
    some t14)
    (some false)).bind fun t15 =>
  (cond t15
    ((spec_l1In e0.2.2.2.1 0 4).bind fun t19 =>
    some t19)
    (some false)).bind fun t20 =>
  (cond t20
    ((cond (!e0.2.2.2.2) (some true) (some (e0.2.2.2.1 == 0))).bind fun t29 =>
    some t29)
    (some false)).bind fun t30 =>
  some t30
noncomputable def F_spec_l8Ent : Fn := ⟨[.val true cFent false], [.val false (.one .bool) true], fun a => spec_l8Ent a⟩
def a_spec_l8Ent : List (Nat × LoopAnn) := []
theorem e_spec_l8Ent : fnDen ⟨tis, fns_213, [], false⟩ a_spec_l8Ent Tryz.f301 (codeOf Tryz.f301) [.val true cFent false] [.val false (.one .bool) true] = fun a => spec_l8Ent a := by kernel_rfl
theorem m_spec_l8Ent : Meets Tryz.prog 301 F_spec_l8Ent := by
  have h := meets_of (ann := a_spec_l8Ent) (ps := [.val true cFent false]) (rs := [.val false (.one .bool) true]) g_213 mixed Tryz.func301 (by kernel_rfl) (by kernel_rfl : Tryz.f301.body = some (codeOf Tryz.f301))
  rw [e_spec_l8Ent] at h
  exact h
noncomputable def fns_301 : List (FuncId × Fn) := (301, F_spec_l8Ent) :: fns_213
theorem g_301 : Good Tryz.prog ⟨tis, fns_301, [], false⟩ := g_213.cons m_spec_l8Ent
noncomputable def spec_l8Ahead (e0 : Fent) (tag1 : Int) (mac2 : Int) : Option Bool :=
  cond (e0.1 != tag1) (some (decide (e0.1 < tag1))) (some (decide (e0.2.1 < mac2)))
noncomputable def F_spec_l8Ahead : Fn := ⟨[.val true cFent false, .val false (.one (.int .i64)) false, .val false (.one (.int .i64)) false], [.val false (.one .bool) true], fun a => spec_l8Ahead a.1 a.2.1 a.2.2⟩
def a_spec_l8Ahead : List (Nat × LoopAnn) := []
theorem e_spec_l8Ahead : fnDen ⟨tis, fns_301, [], false⟩ a_spec_l8Ahead Tryz.f310 (codeOf Tryz.f310) [.val true cFent false, .val false (.one (.int .i64)) false, .val false (.one (.int .i64)) false] [.val false (.one .bool) true] = fun a => spec_l8Ahead a.1 a.2.1 a.2.2 := by kernel_rfl
theorem m_spec_l8Ahead : Meets Tryz.prog 310 F_spec_l8Ahead := by
  have h := meets_of (ann := a_spec_l8Ahead) (ps := [.val true cFent false, .val false (.one (.int .i64)) false, .val false (.one (.int .i64)) false]) (rs := [.val false (.one .bool) true]) g_301 mixed Tryz.func310 (by kernel_rfl) (by kernel_rfl : Tryz.f310.body = some (codeOf Tryz.f310))
  rw [e_spec_l8Ahead] at h
  exact h
noncomputable def fns_310 : List (FuncId × Fn) := (310, F_spec_l8Ahead) :: fns_301
theorem g_310 : Good Tryz.prog ⟨tis, fns_310, [], false⟩ := g_301.cons m_spec_l8Ahead
noncomputable def spec_FdbOk_l0 (l0 : List Fent) (i3 : Int) : Option (Int ⊕ (Unit ⊕ Bool)) :=
  cond (decide (i3 < (l0.length : Int)))
    ((at? l0 i3).bind fun x12 =>
    (spec_l8Ent x12).bind fun t14 =>
    (cond (!t14)
      (some true)
      ((cond (decide (i3 > 0))
        ((at? l0 (w64 (i3 - 1))).bind fun x23 =>
        (at? l0 i3).bind fun x27 =>
        (at? l0 i3).bind fun x32 =>
        (spec_l8Ahead x23 x27.1 x32.2.1).bind fun t35 =>
        some (!t35))
        (some false)).bind fun t37 =>
      some t37)).bind fun t38 =>
    cond t38 (some (.inr (.inr false))) (some (.inl (w64 (i3 + 1)))))
    (some (.inr (.inl ())))
noncomputable def spec_FdbOk (l0 : List Fent) : Option Bool :=
  (loop (fun z => spec_FdbOk_l0 l0 z) 0).bind (Sum.elim (fun d =>
    let t2 := decide ((l0.length : Int) ≤ 12)
    some t2) (fun r => some r))
noncomputable def F_spec_FdbOk : Fn := ⟨[.val false (.one (.sl cFent)) false], [.val false (.one .bool) true], fun a => spec_FdbOk a⟩
def a_spec_FdbOk : List (Nat × LoopAnn) := [(0, ⟨⟨[(3, false, [.dat (.int .i64)]), (17, false, [.undef]), (18, false, [.undef]), (19, false, [.undef]), (20, false, [.undef]), (21, false, [.undef]), (22, false, [.undef]), (23, false, [.undef]), (24, false, [.undef]), (25, false, [.undef]), (26, false, [.undef]), (27, false, [.undef]), (28, false, [.undef]), (29, false, [.undef]), (30, false, [.undef]), (31, false, [.undef]), (32, false, [.undef]), (33, false, [.undef]), (34, false, [.undef]), (35, false, [.undef]), (36, false, [.undef]), (37, false, [.undef])], []⟩,
    ⟨[], []⟩, some ⟨[(2, false, [.dat .bool])], []⟩⟩)]
theorem e_spec_FdbOk : fnDen ⟨tis, fns_310, [], false⟩ a_spec_FdbOk Tryz.f214 (codeOf Tryz.f214) [.val false (.one (.sl cFent)) false] [.val false (.one .bool) true] = fun a => spec_FdbOk a := by kernel_rfl
theorem m_spec_FdbOk : Meets Tryz.prog 214 F_spec_FdbOk := by
  have h := meets_of (ann := a_spec_FdbOk) (ps := [.val false (.one (.sl cFent)) false]) (rs := [.val false (.one .bool) true]) g_310 mixed Tryz.func214 (by kernel_rfl) (by kernel_rfl : Tryz.f214.body = some (codeOf Tryz.f214))
  rw [e_spec_FdbOk] at h
  exact h
noncomputable def fns_214 : List (FuncId × Fn) := (214, F_spec_FdbOk) :: fns_310
theorem g_214 : Good Tryz.prog ⟨tis, fns_214, [], false⟩ := g_310.cons m_spec_FdbOk
noncomputable def spec_l11Counts (b0 : Bridge) : Option Bool :=
  (spec_l1In b0.2.2.2.2.2.2.1 0 1000000).bind fun t5 =>
  (cond t5
    ((spec_l1In b0.2.2.2.2.2.2.2.1 0 1000000).bind fun t9 =>
    some t9)
    (some false)).bind fun t10 =>
  (cond t10
    ((spec_l1In b0.2.2.2.2.2.2.2.2.1 0 1000000).bind fun t14 =>
    some t14)
    (some false)).bind fun t15 =>
  (cond t15
    ((spec_l1In b0.2.2.2.2.2.2.2.2.2.1 0 1000000).bind fun t19 =>
    some t19)
    (some false)).bind fun t20 =>
  (cond t20
    ((spec_l1In b0.2.2.2.2.2.2.2.2.2.2 0 1000000).bind fun t24 =>
    some t24)
    (some false)).bind fun t25 =>
  some t25
noncomputable def F_spec_l11Counts : Fn := ⟨[.val true cBridge false], [.val false (.one .bool) true], fun a => spec_l11Counts a⟩
def a_spec_l11Counts : List (Nat × LoopAnn) := []
theorem e_spec_l11Counts : fnDen ⟨tis, fns_214, [], false⟩ a_spec_l11Counts Tryz.f215 (codeOf Tryz.f215) [.val true cBridge false] [.val false (.one .bool) true] = fun a => spec_l11Counts a := by kernel_rfl
theorem m_spec_l11Counts : Meets Tryz.prog 215 F_spec_l11Counts := by
  have h := meets_of (ann := a_spec_l11Counts) (ps := [.val true cBridge false]) (rs := [.val false (.one .bool) true]) g_214 mixed Tryz.func215 (by kernel_rfl) (by kernel_rfl : Tryz.f215.body = some (codeOf Tryz.f215))
  rw [e_spec_l11Counts] at h
  exact h
noncomputable def fns_215 : List (FuncId × Fn) := (215, F_spec_l11Counts) :: fns_214
theorem g_215 : Good Tryz.prog ⟨tis, fns_215, [], false⟩ := g_214.cons m_spec_l11Counts
noncomputable def spec_BridgeOk_l0 (b0 : Bridge) (i3 : Int) : Option (Int ⊕ (Unit ⊕ Bool)) :=
  cond (decide (i3 < (b0.2.2.1.length : Int)))
    ((at? b0.2.2.1 i3).bind fun x14 =>
    (spec_PtOk x14).bind fun t16 =>
    cond (!t16) (some (.inr (.inr false))) (some (.inl (w64 (i3 + 1)))))
    (some (.inr (.inl ())))
noncomputable def spec_BridgeOk (b0 : Bridge) : Option Bool :=
  (loop (fun z => spec_BridgeOk_l0 b0 z) 0).bind (Sum.elim (fun d =>
    (spec_l1In b0.1 1 99).bind fun t20 =>
    (cond t20 (some (decide ((b0.2.1.length : Int) ≤ 10))) (some false)).bind fun t26 =>
    (cond t26
      ((spec_l1In (b0.2.2.1.length : Int) 1 6).bind fun t31 =>
      some t31)
      (some false)).bind fun t32 =>
    (cond t32
      ((spec_FdbOk b0.2.2.2.1).bind fun t36 =>
      some t36)
      (some false)).bind fun t37 =>
    (cond t37
      ((spec_VtabOk (b0.2.2.2.2.1, b0.2.2.2.2.2.1) (b0.2.2.1.length : Int)).bind fun t44 =>
      some t44)
      (some false)).bind fun t45 =>
    (cond t45
      ((spec_l11Counts b0).bind fun t48 =>
      some t48)
      (some false)).bind fun t49 =>
    some t49) (fun r => some r))
noncomputable def F_spec_BridgeOk : Fn := ⟨[.val true cBridge false], [.val false (.one .bool) true], fun a => spec_BridgeOk a⟩
def a_spec_BridgeOk : List (Nat × LoopAnn) := [(0, ⟨⟨[(3, false, [.dat (.int .i64)])], []⟩,
    ⟨[], []⟩, some ⟨[(2, false, [.dat .bool])], []⟩⟩)]
theorem e_spec_BridgeOk : fnDen ⟨tis, fns_215, [], false⟩ a_spec_BridgeOk Tryz.f94 (codeOf Tryz.f94) [.val true cBridge false] [.val false (.one .bool) true] = fun a => spec_BridgeOk a := by kernel_rfl
theorem m_spec_BridgeOk : Meets Tryz.prog 94 F_spec_BridgeOk := by
  have h := meets_of (ann := a_spec_BridgeOk) (ps := [.val true cBridge false]) (rs := [.val false (.one .bool) true]) g_215 mixed Tryz.func94 (by kernel_rfl) (by kernel_rfl : Tryz.f94.body = some (codeOf Tryz.f94))
  rw [e_spec_BridgeOk] at h
  exact h
noncomputable def fns_94 : List (FuncId × Fn) := (94, F_spec_BridgeOk) :: fns_215
theorem g_94 : Good Tryz.prog ⟨tis, fns_94, [], false⟩ := g_215.cons m_spec_BridgeOk
noncomputable def spec_l1Clip (n0 : Int) : Option Int :=
  cond (decide (n0 > 2147483647))
    (some 2147483647)
    (cond (decide (n0 < (-2147483648))) (some (-2147483648)) (some n0))
noncomputable def F_spec_l1Clip : Fn := ⟨[.val false (.one (.int .i64)) false], [.val false (.one (.int .i64)) true], fun a => spec_l1Clip a⟩
def a_spec_l1Clip : List (Nat × LoopAnn) := []
theorem e_spec_l1Clip : fnDen ⟨tis, fns_94, [], false⟩ a_spec_l1Clip Tryz.f316 (codeOf Tryz.f316) [.val false (.one (.int .i64)) false] [.val false (.one (.int .i64)) true] = fun a => spec_l1Clip a := by kernel_rfl
theorem m_spec_l1Clip : Meets Tryz.prog 316 F_spec_l1Clip := by
  have h := meets_of (ann := a_spec_l1Clip) (ps := [.val false (.one (.int .i64)) false]) (rs := [.val false (.one (.int .i64)) true]) g_94 mixed Tryz.func316 (by kernel_rfl) (by kernel_rfl : Tryz.f316.body = some (codeOf Tryz.f316))
  rw [e_spec_l1Clip] at h
  exact h
noncomputable def fns_316 : List (FuncId × Fn) := (316, F_spec_l1Clip) :: fns_94
theorem g_316 : Good Tryz.prog ⟨tis, fns_316, [], false⟩ := g_94.cons m_spec_l1Clip
noncomputable def spec_OidOk_l0 (o0 : List Int) (i3 : Int) : Option (Int ⊕ (Unit ⊕ Bool)) :=
  cond (decide (i3 < (o0.length : Int)))
    ((at? o0 i3).bind fun x12 =>
    (spec_l1In x12 0 100000).bind fun t14 =>
    cond (!t14) (some (.inr (.inr false))) (some (.inl (w64 (i3 + 1)))))
    (some (.inr (.inl ())))
noncomputable def spec_OidOk (o0 : List Int) : Option Bool :=
  (loop (fun z => spec_OidOk_l0 o0 z) 0).bind (Sum.elim (fun d =>
    (spec_l1In (o0.length : Int) 1 10).bind fun t18 =>
    some t18) (fun r => some r))
noncomputable def F_spec_OidOk : Fn := ⟨[.val false (.one (.sl (.one (.int .i64)))) false], [.val false (.one .bool) true], fun a => spec_OidOk a⟩
def a_spec_OidOk : List (Nat × LoopAnn) := [(0, ⟨⟨[(3, false, [.dat (.int .i64)])], []⟩,
    ⟨[], []⟩, some ⟨[(2, false, [.dat .bool])], []⟩⟩)]
theorem e_spec_OidOk : fnDen ⟨tis, fns_316, [], false⟩ a_spec_OidOk Tryz.f360 (codeOf Tryz.f360) [.val false (.one (.sl (.one (.int .i64)))) false] [.val false (.one .bool) true] = fun a => spec_OidOk a := by kernel_rfl
theorem m_spec_OidOk : Meets Tryz.prog 360 F_spec_OidOk := by
  have h := meets_of (ann := a_spec_OidOk) (ps := [.val false (.one (.sl (.one (.int .i64)))) false]) (rs := [.val false (.one .bool) true]) g_316 mixed Tryz.func360 (by kernel_rfl) (by kernel_rfl : Tryz.f360.body = some (codeOf Tryz.f360))
  rw [e_spec_OidOk] at h
  exact h
noncomputable def fns_360 : List (FuncId × Fn) := (360, F_spec_OidOk) :: fns_316
theorem g_360 : Good Tryz.prog ⟨tis, fns_360, [], false⟩ := g_316.cons m_spec_OidOk
noncomputable def spec_ValOk (p0 : Val) : Option Bool :=
  cond (p0.1 == 5)
    (cond (p0.1 == 5)
      ((cond (p0.2.1 == 0) (some (p0.2.2.1 == [])) (some false)).bind fun t16 =>
      (cond t16 (some ((p0.2.2.2.length : Int) == 0)) (some false)).bind fun t22 =>
      some t22)
      (cond (p0.1 == 2)
        ((spec_l1Clip p0.2.1).bind fun t27 =>
        (cond (t27 == p0.2.1) (some (p0.2.2.1 == [])) (some false)).bind fun t35 =>
        (cond t35 (some ((p0.2.2.2.length : Int) == 0)) (some false)).bind fun t41 =>
        some t41)
        (cond (p0.1 == 4)
          ((cond (decide ((p0.2.2.1.length : Int) ≤ 20)) (some (p0.2.1 == 0)) (some false)).bind fun t52 =>
          (cond t52 (some ((p0.2.2.2.length : Int) == 0)) (some false)).bind fun t58 =>
          some t58)
          (cond (p0.1 == 6)
            ((spec_OidOk p0.2.2.2).bind fun t63 =>
            (cond t63 (some (p0.2.1 == 0)) (some false)).bind fun t68 =>
            (cond t68 (some (p0.2.2.1 == [])) (some false)).bind fun t73 =>
            some t73)
            (some false)))))
    (cond (p0.1 == 128)
      (cond (p0.1 == 128)
        ((cond (p0.2.1 == 0) (some (p0.2.2.1 == [])) (some false)).bind fun t16_1 =>
        (cond t16_1 (some ((p0.2.2.2.length : Int) == 0)) (some false)).bind fun t22_1 =>
        some t22_1)
        (cond (p0.1 == 2)
          ((spec_l1Clip p0.2.1).bind fun t27_1 =>
          (cond (t27_1 == p0.2.1) (some (p0.2.2.1 == [])) (some false)).bind fun t35_1 =>
          (cond t35_1 (some ((p0.2.2.2.length : Int) == 0)) (some false)).bind fun t41_1 =>
          some t41_1)
          (cond (p0.1 == 4)
            ((cond (decide ((p0.2.2.1.length : Int) ≤ 20)) (some (p0.2.1 == 0)) (some false)).bind fun t52_1 =>
            (cond t52_1 (some ((p0.2.2.2.length : Int) == 0)) (some false)).bind fun t58_1 =>
            some t58_1)
            (cond (p0.1 == 6)
              ((spec_OidOk p0.2.2.2).bind fun t63_1 =>
              (cond t63_1 (some (p0.2.1 == 0)) (some false)).bind fun t68_1 =>
              (cond t68_1 (some (p0.2.2.1 == [])) (some false)).bind fun t73_1 =>
              some t73_1)
              (some false)))))
      (cond (p0.1 == 130)
        ((cond (p0.2.1 == 0) (some (p0.2.2.1 == [])) (some false)).bind fun t16_2 =>
        (cond t16_2 (some ((p0.2.2.2.length : Int) == 0)) (some false)).bind fun t22_2 =>
        some t22_2)
        (cond (p0.1 == 2)
          ((spec_l1Clip p0.2.1).bind fun t27_2 =>
          (cond (t27_2 == p0.2.1) (some (p0.2.2.1 == [])) (some false)).bind fun t35_2 =>
          (cond t35_2 (some ((p0.2.2.2.length : Int) == 0)) (some false)).bind fun t41_2 =>
          some t41_2)
          (cond (p0.1 == 4)
            ((cond (decide ((p0.2.2.1.length : Int) ≤ 20)) (some (p0.2.1 == 0)) (some false)).bind fun t52_2 =>
            (cond t52_2 (some ((p0.2.2.2.length : Int) == 0)) (some false)).bind fun t58_2 =>
            some t58_2)
            (cond (p0.1 == 6)
              ((spec_OidOk p0.2.2.2).bind fun t63_2 =>
              (cond t63_2 (some (p0.2.1 == 0)) (some false)).bind fun t68_2 =>
              (cond t68_2 (some (p0.2.2.1 == [])) (some false)).bind fun t73_2 =>
              some t73_2)
              (some false))))))
noncomputable def F_spec_ValOk : Fn := ⟨[.val true cVal false], [.val false (.one .bool) true], fun a => spec_ValOk a⟩
def a_spec_ValOk : List (Nat × LoopAnn) := []
theorem e_spec_ValOk : fnDen ⟨tis, fns_360, [], false⟩ a_spec_ValOk Tryz.f361 (codeOf Tryz.f361) [.val true cVal false] [.val false (.one .bool) true] = fun a => spec_ValOk a := by kernel_rfl
theorem m_spec_ValOk : Meets Tryz.prog 361 F_spec_ValOk := by
  have h := meets_of (ann := a_spec_ValOk) (ps := [.val true cVal false]) (rs := [.val false (.one .bool) true]) g_360 mixed Tryz.func361 (by kernel_rfl) (by kernel_rfl : Tryz.f361.body = some (codeOf Tryz.f361))
  rw [e_spec_ValOk] at h
  exact h
noncomputable def fns_361 : List (FuncId × Fn) := (361, F_spec_ValOk) :: fns_360
theorem g_361 : Good Tryz.prog ⟨tis, fns_361, [], false⟩ := g_360.cons m_spec_ValOk
noncomputable def spec_l4Kind (k0 : Int) : Option Bool :=
  (cond (k0 == 160) (some true) (some (k0 == 161))).bind fun t8 =>
  (cond t8 (some true) (some (k0 == 162))).bind fun t12 =>
  (cond t12 (some true) (some (k0 == 163))).bind fun t16 =>
  (cond t16 (some true) (some (k0 == 165))).bind fun t20 =>
  some t20
noncomputable def F_spec_l4Kind : Fn := ⟨[.val false (.one (.int .i64)) false], [.val false (.one .bool) true], fun a => spec_l4Kind a⟩
def a_spec_l4Kind : List (Nat × LoopAnn) := []
theorem e_spec_l4Kind : fnDen ⟨tis, fns_361, [], false⟩ a_spec_l4Kind Tryz.f362 (codeOf Tryz.f362) [.val false (.one (.int .i64)) false] [.val false (.one .bool) true] = fun a => spec_l4Kind a := by kernel_rfl
theorem m_spec_l4Kind : Meets Tryz.prog 362 F_spec_l4Kind := by
  have h := meets_of (ann := a_spec_l4Kind) (ps := [.val false (.one (.int .i64)) false]) (rs := [.val false (.one .bool) true]) g_361 mixed Tryz.func362 (by kernel_rfl) (by kernel_rfl : Tryz.f362.body = some (codeOf Tryz.f362))
  rw [e_spec_l4Kind] at h
  exact h
noncomputable def fns_362 : List (FuncId × Fn) := (362, F_spec_l4Kind) :: fns_361
theorem g_362 : Good Tryz.prog ⟨tis, fns_362, [], false⟩ := g_361.cons m_spec_l4Kind
noncomputable def spec_PduOk_l0 (p0 : Pdu) (t3 : Int) : Option (Int ⊕ (Unit ⊕ Bool)) :=
  cond (decide (t3 < (p0.2.2.2.2.length : Int)))
    ((at? p0.2.2.2.2 t3).bind fun x14 =>
    (spec_OidOk x14.1).bind fun t17 =>
    (cond (!t17)
      (some true)
      ((at? p0.2.2.2.2 t3).bind fun x23 =>
      (spec_ValOk x23.2).bind fun t26 =>
      some (!t26))).bind fun t28 =>
    cond t28 (some (.inr (.inr false))) (some (.inl (w64 (t3 + 1)))))
    (some (.inr (.inl ())))
noncomputable def spec_PduOk (p0 : Pdu) : Option Bool :=
  (loop (fun z => spec_PduOk_l0 p0 z) 0).bind (Sum.elim (fun d =>
    (cond (p0.1 != 162) (some (p0.1 != 165)) (some false)).bind fun t36 =>
    (cond t36
      ((cond (p0.2.2.1 != 0) (some true) (some (p0.2.2.2.1 != 0))).bind fun t45 =>
      some t45)
      (some false)).bind fun t46 =>
    cond t46
      (some false)
      ((spec_l4Kind p0.1).bind fun t49 =>
      (cond t49
        ((spec_l1Clip p0.2.1).bind fun t53 =>
        some (t53 == p0.2.1))
        (some false)).bind fun t57 =>
      (cond t57
        ((spec_l1In p0.2.2.1 0 1000).bind fun t61 =>
        some t61)
        (some false)).bind fun t62 =>
      (cond t62
        ((spec_l1In p0.2.2.2.1 0 1000).bind fun t66 =>
        some t66)
        (some false)).bind fun t67 =>
      (cond t67 (some (decide ((p0.2.2.2.2.length : Int) ≤ 10))) (some false)).bind fun t73 =>
      some t73)) (fun r => some r))
noncomputable def F_spec_PduOk : Fn := ⟨[.val true cPdu false], [.val false (.one .bool) true], fun a => spec_PduOk a⟩
def a_spec_PduOk : List (Nat × LoopAnn) := [(0, ⟨⟨[(3, false, [.dat (.int .i64)]), (20, false, [.undef]), (21, false, [.undef]), (22, false, [.undef]), (23, false, [.undef]), (24, false, [.undef]), (25, false, [.undef]), (26, false, [.undef]), (27, false, [.undef])], []⟩,
    ⟨[], []⟩, some ⟨[(2, false, [.dat .bool])], []⟩⟩)]
theorem e_spec_PduOk : fnDen ⟨tis, fns_362, [], false⟩ a_spec_PduOk Tryz.f332 (codeOf Tryz.f332) [.val true cPdu false] [.val false (.one .bool) true] = fun a => spec_PduOk a := by kernel_rfl
theorem m_spec_PduOk : Meets Tryz.prog 332 F_spec_PduOk := by
  have h := meets_of (ann := a_spec_PduOk) (ps := [.val true cPdu false]) (rs := [.val false (.one .bool) true]) g_362 mixed Tryz.func332 (by kernel_rfl) (by kernel_rfl : Tryz.f332.body = some (codeOf Tryz.f332))
  rw [e_spec_PduOk] at h
  exact h
noncomputable def fns_332 : List (FuncId × Fn) := (332, F_spec_PduOk) :: fns_362
theorem g_332 : Good Tryz.prog ⟨tis, fns_332, [], false⟩ := g_362.cons m_spec_PduOk
noncomputable def spec_l20Asks (p0 : Pdu) : Option Bool :=
  (spec_PduOk p0).bind fun t4 =>
  (cond t4 (some (p0.1 != 162)) (some false)).bind fun t9 =>
  some t9
noncomputable def F_spec_l20Asks : Fn := ⟨[.val true cPdu false], [.val false (.one .bool) true], fun a => spec_l20Asks a⟩
def a_spec_l20Asks : List (Nat × LoopAnn) := []
theorem e_spec_l20Asks : fnDen ⟨tis, fns_332, [], false⟩ a_spec_l20Asks Tryz.f329 (codeOf Tryz.f329) [.val true cPdu false] [.val false (.one .bool) true] = fun a => spec_l20Asks a := by kernel_rfl
theorem m_spec_l20Asks : Meets Tryz.prog 329 F_spec_l20Asks := by
  have h := meets_of (ann := a_spec_l20Asks) (ps := [.val true cPdu false]) (rs := [.val false (.one .bool) true]) g_332 mixed Tryz.func329 (by kernel_rfl) (by kernel_rfl : Tryz.f329.body = some (codeOf Tryz.f329))
  rw [e_spec_l20Asks] at h
  exact h
noncomputable def fns_329 : List (FuncId × Fn) := (329, F_spec_l20Asks) :: fns_332
theorem g_329 : Good Tryz.prog ⟨tis, fns_329, [], false⟩ := g_332.cons m_spec_l20Asks
noncomputable def spec_l20Job (j0 : Job) (last1 : Int) : Option Bool :=
  (spec_l1In j0.1 1 last1).bind fun t8 =>
  (cond (!t8)
    (some true)
    ((spec_l1In j0.2.2.1 0 2).bind fun t13 =>
    some (!t13))).bind fun t15 =>
  (cond t15
    (some true)
    ((spec_l1In j0.2.2.2.2.2.2.2.2.2.2.2.2.2.2.2.2.2.2.2.2 0 3).bind fun t19 =>
    some (!t19))).bind fun t21 =>
  (cond t21
    (some true)
    ((spec_l1In j0.2.2.2.2.2.2.2.2.2.2.2.2.2.2.2.2.2.2.2.1 0 (j0.2.2.2.2.2.2.2.1.length : Int)).bind fun t29 =>
    some (!t29))).bind fun t31 =>
  cond t31
    (some false)
    ((cond (j0.2.2.1 == 0)
      (some true)
      ((spec_l20Asks (j0.2.2.2.1, j0.2.2.2.2.1, j0.2.2.2.2.2.1, j0.2.2.2.2.2.2.1, j0.2.2.2.2.2.2.2.1)).bind fun t38 =>
      (cond t38
        ((spec_BridgeOk (j0.2.2.2.2.2.2.2.2.1, j0.2.2.2.2.2.2.2.2.2.1, j0.2.2.2.2.2.2.2.2.2.2.1, j0.2.2.2.2.2.2.2.2.2.2.2.1, j0.2.2.2.2.2.2.2.2.2.2.2.2.1, j0.2.2.2.2.2.2.2.2.2.2.2.2.2.1, j0.2.2.2.2.2.2.2.2.2.2.2.2.2.2.1, j0.2.2.2.2.2.2.2.2.2.2.2.2.2.2.2.1, j0.2.2.2.2.2.2.2.2.2.2.2.2.2.2.2.2.1, j0.2.2.2.2.2.2.2.2.2.2.2.2.2.2.2.2.2.1, j0.2.2.2.2.2.2.2.2.2.2.2.2.2.2.2.2.2.2.1)).bind fun t42 =>
        some t42)
        (some false)).bind fun t43 =>
      some t43)).bind fun t44 =>
    some t44)
noncomputable def F_spec_l20Job : Fn := ⟨[.val true cJob false, .val false (.one (.int .i64)) false], [.val false (.one .bool) true], fun a => spec_l20Job a.1 a.2⟩
def a_spec_l20Job : List (Nat × LoopAnn) := []
theorem e_spec_l20Job : fnDen ⟨tis, fns_329, [], false⟩ a_spec_l20Job Tryz.f262 (codeOf Tryz.f262) [.val true cJob false, .val false (.one (.int .i64)) false] [.val false (.one .bool) true] = fun a => spec_l20Job a.1 a.2 := by kernel_rfl
theorem m_spec_l20Job : Meets Tryz.prog 262 F_spec_l20Job := by
  have h := meets_of (ann := a_spec_l20Job) (ps := [.val true cJob false, .val false (.one (.int .i64)) false]) (rs := [.val false (.one .bool) true]) g_329 mixed Tryz.func262 (by kernel_rfl) (by kernel_rfl : Tryz.f262.body = some (codeOf Tryz.f262))
  rw [e_spec_l20Job] at h
  exact h
noncomputable def fns_262 : List (FuncId × Fn) := (262, F_spec_l20Job) :: fns_329
theorem g_262 : Good Tryz.prog ⟨tis, fns_262, [], false⟩ := g_329.cons m_spec_l20Job
noncomputable def spec_AgentOk_l0 (p0 : Agent) (t3 : Int) : Option (Int ⊕ (Unit ⊕ Bool)) :=
  cond (decide (t3 < (p0.2.2.2.2.2.2.2.2.2.2.2.2.1.length : Int)))
    ((at? p0.2.2.2.2.2.2.2.2.2.2.2.2.1 t3).bind fun x14 =>
    (spec_l20Job x14 p0.2.2.2.2.2.2.2.2.2.2.2.2.2.2).bind fun t18 =>
    (cond (!t18)
      (some true)
      ((cond (decide (t3 > 0))
        ((at? p0.2.2.2.2.2.2.2.2.2.2.2.2.1 (w64 (t3 - 1))).bind fun x28 =>
        (at? p0.2.2.2.2.2.2.2.2.2.2.2.2.1 t3).bind fun x34 =>
        some (decide (x28.1 ≥ x34.1)))
        (some false)).bind fun t38 =>
      some t38)).bind fun t39 =>
    cond t39 (some (.inr (.inr false))) (some (.inl (w64 (t3 + 1)))))
    (some (.inr (.inl ())))
noncomputable def spec_AgentOk (p0 : Agent) : Option Bool :=
  (loop (fun z => spec_AgentOk_l0 p0 z) 0).bind (Sum.elim (fun d =>
    (spec_BridgeOk (p0.1, p0.2.1, p0.2.2.1, p0.2.2.2.1, p0.2.2.2.2.1, p0.2.2.2.2.2.1, p0.2.2.2.2.2.2.1, p0.2.2.2.2.2.2.2.1, p0.2.2.2.2.2.2.2.2.1, p0.2.2.2.2.2.2.2.2.2.1, p0.2.2.2.2.2.2.2.2.2.2.1)).bind fun t42 =>
    (cond t42
      (some (decide ((p0.2.2.2.2.2.2.2.2.2.2.2.1.length : Int) ≤ 20)))
      (some false)).bind fun t48 =>
    (cond t48
      (some (decide ((p0.2.2.2.2.2.2.2.2.2.2.2.2.1.length : Int) ≤ 6)))
      (some false)).bind fun t54 =>
    (cond t54
      ((spec_l1In p0.2.2.2.2.2.2.2.2.2.2.2.2.2.1 0 1000000).bind fun t58 =>
      some t58)
      (some false)).bind fun t59 =>
    (cond t59
      ((spec_l1In p0.2.2.2.2.2.2.2.2.2.2.2.2.2.2 0 1000000).bind fun t63 =>
      some t63)
      (some false)).bind fun t64 =>
    some t64) (fun r => some r))
noncomputable def F_spec_AgentOk : Fn := ⟨[.val true cAgent false], [.val false (.one .bool) true], fun a => spec_AgentOk a⟩
def a_spec_AgentOk : List (Nat × LoopAnn) := [(0, ⟨⟨[(3, false, [.dat (.int .i64)]), (21, false, [.undef]), (22, false, [.undef]), (23, false, [.undef]), (24, false, [.undef]), (25, false, [.undef]), (26, false, [.undef]), (27, false, [.undef]), (28, false, [.undef]), (29, false, [.undef]), (30, false, [.undef]), (31, false, [.undef]), (32, false, [.undef]), (33, false, [.undef]), (34, false, [.undef]), (35, false, [.undef]), (36, false, [.undef]), (37, false, [.undef]), (38, false, [.undef])], []⟩,
    ⟨[], []⟩, some ⟨[(2, false, [.dat .bool])], []⟩⟩)]
theorem e_spec_AgentOk : fnDen ⟨tis, fns_262, [], false⟩ a_spec_AgentOk Tryz.f149 (codeOf Tryz.f149) [.val true cAgent false] [.val false (.one .bool) true] = fun a => spec_AgentOk a := by kernel_rfl
theorem m_spec_AgentOk : Meets Tryz.prog 149 F_spec_AgentOk := by
  have h := meets_of (ann := a_spec_AgentOk) (ps := [.val true cAgent false]) (rs := [.val false (.one .bool) true]) g_262 mixed Tryz.func149 (by kernel_rfl) (by kernel_rfl : Tryz.f149.body = some (codeOf Tryz.f149))
  rw [e_spec_AgentOk] at h
  exact h
noncomputable def fns_149 : List (FuncId × Fn) := (149, F_spec_AgentOk) :: fns_262
theorem g_149 : Good Tryz.prog ⟨tis, fns_149, [], false⟩ := g_262.cons m_spec_AgentOk
noncomputable def spec_GetTlv (p0 : List Int) (i1 : Int) : Option (Int × (List Int) × Int × Bool) :=
  (cond (decide (i1 < 0)) (some true) (some (decide (i1 ≥ (p0.length : Int))))).bind fun t17 =>
  (cond t17 (some true) (some (decide ((w64 (i1 + 1)) ≥ (p0.length : Int))))).bind fun t24 =>
  cond t24
    (some (0, ([] : List Int), 0, false))
    ((at? p0 (w64 (i1 + 1))).bind fun x29 =>
    cond (decide ((w64 (x29)) > 127))
      ((cond ((w64 (x29)) != 129) (some true) (some (decide ((w64 (i1 + 2)) ≥ (p0.length : Int))))).bind fun t43 =>
      (cond t43
        (some true)
        ((at? p0 (w64 (i1 + 2))).bind fun x47 =>
        some (decide (x47 < 128)))).bind fun t50 =>
      cond t50
        (some (0, ([] : List Int), 0, false))
        ((at? p0 (w64 (i1 + 2))).bind fun x54 =>
        (cond (decide ((w64 (x54)) > 250))
          (some true)
          (some (decide ((w64 (x54)) > (w64 ((p0.length : Int) - (w64 ((w64 (i1 + 2)) + 1)))))))).bind fun t68 =>
        cond t68
          (some (0, ([] : List Int), 0, false))
          ((at? p0 i1).bind fun x72 =>
          (cut p0 (w64 ((w64 (i1 + 2)) + 1)) (w64 ((w64 ((w64 (i1 + 2)) + 1)) + (w64 (x54))))).bind fun t81 =>
          (app ([] : List Int) t81).bind fun zs82 =>
          let t6 := w64 ((w64 ((w64 (i1 + 2)) + 1)) + (w64 (x54)))
          some (w64 (x72), zs82, t6, true))))
      ((cond (decide ((w64 (x29)) > 250))
        (some true)
        (some (decide ((w64 (x29)) > (w64 ((p0.length : Int) - (w64 (i1 + 2)))))))).bind fun t68_1 =>
      cond t68_1
        (some (0, ([] : List Int), 0, false))
        ((at? p0 i1).bind fun x72_1 =>
        (cut p0 (w64 (i1 + 2)) (w64 ((w64 (i1 + 2)) + (w64 (x29))))).bind fun t81_1 =>
        (app ([] : List Int) t81_1).bind fun zs82_1 =>
        let t6_1 := w64 ((w64 (i1 + 2)) + (w64 (x29)))
        some (w64 (x72_1), zs82_1, t6_1, true))))
noncomputable def F_spec_GetTlv : Fn := ⟨[.val false (.one (.sl (.one (.int .u8)))) false, .val false (.one (.int .i64)) false], [.val false (.one (.int .i64)) true, .val false (.one (.sl (.one (.int .u8)))) true, .val false (.one (.int .i64)) true, .val false (.one .bool) true], fun a => spec_GetTlv a.1 a.2⟩
def a_spec_GetTlv : List (Nat × LoopAnn) := []
theorem e_spec_GetTlv : fnDen ⟨tis, fns_149, [], false⟩ a_spec_GetTlv Tryz.f263 (codeOf Tryz.f263) [.val false (.one (.sl (.one (.int .u8)))) false, .val false (.one (.int .i64)) false] [.val false (.one (.int .i64)) true, .val false (.one (.sl (.one (.int .u8)))) true, .val false (.one (.int .i64)) true, .val false (.one .bool) true] = fun a => spec_GetTlv a.1 a.2 := by kernel_rfl
theorem m_spec_GetTlv : Meets Tryz.prog 263 F_spec_GetTlv := by
  have h := meets_of (ann := a_spec_GetTlv) (ps := [.val false (.one (.sl (.one (.int .u8)))) false, .val false (.one (.int .i64)) false]) (rs := [.val false (.one (.int .i64)) true, .val false (.one (.sl (.one (.int .u8)))) true, .val false (.one (.int .i64)) true, .val false (.one .bool) true]) g_149 mixed Tryz.func263 (by kernel_rfl) (by kernel_rfl : Tryz.f263.body = some (codeOf Tryz.f263))
  rw [e_spec_GetTlv] at h
  exact h
noncomputable def fns_263 : List (FuncId × Fn) := (263, F_spec_GetTlv) :: fns_149
theorem g_263 : Good Tryz.prog ⟨tis, fns_263, [], false⟩ := g_149.cons m_spec_GetTlv
noncomputable def spec_l4Part (r0 : L4Reader) (tag1 : Int) : Option (L4Reader × List Int) :=
  (spec_GetTlv r0.1 r0.2.1).bind fun t18 =>
  (cond r0.2.2 (some true) (some (!t18.2.2.2))).bind fun t30 =>
  (cond t30 (some true) (some (t18.1 != tag1))).bind fun t35 =>
  cond t35
    (some ((r0.1, r0.2.1, true), ([] : List Int)))
    (some ((r0.1, t18.2.2.1, r0.2.2), t18.2.1))
noncomputable def F_spec_l4Part : Fn := ⟨[.ptr cL4Reader false, .val false (.one (.int .i64)) false], [.val false (.one (.sl (.one (.int .u8)))) true], fun a => spec_l4Part a.1 a.2⟩
def a_spec_l4Part : List (Nat × LoopAnn) := []
theorem e_spec_l4Part : fnDen ⟨tis, fns_263, [], false⟩ a_spec_l4Part Tryz.f265 (codeOf Tryz.f265) [.ptr cL4Reader false, .val false (.one (.int .i64)) false] [.val false (.one (.sl (.one (.int .u8)))) true] = fun a => spec_l4Part a.1 a.2 := by kernel_rfl
theorem m_spec_l4Part : Meets Tryz.prog 265 F_spec_l4Part := by
  have h := meets_of (ann := a_spec_l4Part) (ps := [.ptr cL4Reader false, .val false (.one (.int .i64)) false]) (rs := [.val false (.one (.sl (.one (.int .u8)))) true]) g_263 mixed Tryz.func265 (by kernel_rfl) (by kernel_rfl : Tryz.f265.body = some (codeOf Tryz.f265))
  rw [e_spec_l4Part] at h
  exact h
noncomputable def fns_265 : List (FuncId × Fn) := (265, F_spec_l4Part) :: fns_263
theorem g_265 : Good Tryz.prog ⟨tis, fns_265, [], false⟩ := g_263.cons m_spec_l4Part
noncomputable def spec_PutInt_l0 (n0_1 : Int) (out3 : List Int) : Option ((Int × List Int) ⊕ (List Int)) :=
  (cond (decide (n0_1 < (-128))) (some true) (some (decide (n0_1 > 127)))).bind fun t14 =>
  cond t14
    ((app [IntKind.u8.wrap (n0_1.fdiv (2 ^ 8))] out3).bind fun zs21 =>
    some (.inl (n0_1.fdiv (2 ^ 8), zs21)))
    (some (.inr out3))
noncomputable def spec_PutInt (n0 : Int) : Option (List Int) :=
  (spec_l1Clip n0).bind fun t5 =>
  (loop (fun z => spec_PutInt_l0 z.1 z.2) (t5, [IntKind.u8.wrap (t5)])).bind fun d =>
  some d
noncomputable def F_spec_PutInt : Fn := ⟨[.val false (.one (.int .i64)) false], [.val false (.one (.sl (.one (.int .u8)))) true], fun a => spec_PutInt a⟩
def a_spec_PutInt : List (Nat × LoopAnn) := [(0, ⟨⟨[(0, false, [.dat (.int .i64)]), (3, false, [.own 1000000000]), (12, false, [.undef]), (13, false, [.undef])], [(1000000000, .root (.one (.int .u8)) true)]⟩,
    ⟨[(3, false, [.own 1000000300])], [(1000000300, .root (.one (.int .u8)) true)]⟩, none⟩)]
theorem e_spec_PutInt : fnDen ⟨tis, fns_265, [], false⟩ a_spec_PutInt Tryz.f357 (codeOf Tryz.f357) [.val false (.one (.int .i64)) false] [.val false (.one (.sl (.one (.int .u8)))) true] = fun a => spec_PutInt a := by kernel_rfl
theorem m_spec_PutInt : Meets Tryz.prog 357 F_spec_PutInt := by
  have h := meets_of (ann := a_spec_PutInt) (ps := [.val false (.one (.int .i64)) false]) (rs := [.val false (.one (.sl (.one (.int .u8)))) true]) g_265 mixed Tryz.func357 (by kernel_rfl) (by kernel_rfl : Tryz.f357.body = some (codeOf Tryz.f357))
  rw [e_spec_PutInt] at h
  exact h
noncomputable def fns_357 : List (FuncId × Fn) := (357, F_spec_PutInt) :: fns_265
theorem g_357 : Good Tryz.prog ⟨tis, fns_357, [], false⟩ := g_265.cons m_spec_PutInt
noncomputable def spec_GetInt_l0 (b0 : List Int) (n4 : Int) (i5 : Int) : Option ((Int × Int) ⊕ Int) :=
  cond (decide (i5 < (b0.length : Int)))
    ((at? b0 i5).bind fun x28 =>
    let n4_1 := bor .i64 (w64 (n4 * 2 ^ 8)) (w64 (x28))
    some (.inl (n4_1, w64 (i5 + 1))))
    (some (.inr n4))
noncomputable def spec_GetInt_l0_1 (b0 : List Int) (n4_3 : Int) (i5_1 : Int) : Option ((Int × Int) ⊕ Int) :=
  cond (decide (i5_1 < (b0.length : Int)))
    ((at? b0 i5_1).bind fun x28_1 =>
    let n4_4 := bor .i64 (w64 (n4_3 * 2 ^ 8)) (w64 (x28_1))
    some (.inl (n4_4, w64 (i5_1 + 1))))
    (some (.inr n4_3))
noncomputable def spec_GetInt (b0 : List Int) : Option (Int × Bool) :=
  (spec_l1In (b0.length : Int) 1 4).bind fun t8 =>
  cond (!t8)
    (some (0, false))
    ((at? b0 0).bind fun x11 =>
    cond (decide ((w64 (x11)) > 127))
      ((loop (fun z => spec_GetInt_l0 b0 z.1 z.2) (w64 ((w64 (x11)) - 256), 1)).bind fun d =>
      (spec_PutInt d).bind fun t33 =>
      cond ((t33.length : Int) != (b0.length : Int)) (some (0, false)) (some (d, true)))
      ((loop (fun z => spec_GetInt_l0_1 b0 z.1 z.2) (w64 (x11), 1)).bind fun d_1 =>
      (spec_PutInt d_1).bind fun t33_1 =>
      cond ((t33_1.length : Int) != (b0.length : Int)) (some (0, false)) (some (d_1, true))))
noncomputable def F_spec_GetInt : Fn := ⟨[.val false (.one (.sl (.one (.int .u8)))) false], [.val false (.one (.int .i64)) true, .val false (.one .bool) true], fun a => spec_GetInt a⟩
def a_spec_GetInt : List (Nat × LoopAnn) := [(0, ⟨⟨[(4, false, [.dat (.int .i64)]), (5, false, [.dat (.int .i64)])], []⟩,
    ⟨[(4, false, [.dat (.int .i64)])], []⟩, none⟩)]
theorem e_spec_GetInt : fnDen ⟨tis, fns_357, [], false⟩ a_spec_GetInt Tryz.f330 (codeOf Tryz.f330) [.val false (.one (.sl (.one (.int .u8)))) false] [.val false (.one (.int .i64)) true, .val false (.one .bool) true] = fun a => spec_GetInt a := by kernel_rfl
theorem m_spec_GetInt : Meets Tryz.prog 330 F_spec_GetInt := by
  have h := meets_of (ann := a_spec_GetInt) (ps := [.val false (.one (.sl (.one (.int .u8)))) false]) (rs := [.val false (.one (.int .i64)) true, .val false (.one .bool) true]) g_357 mixed Tryz.func330 (by kernel_rfl) (by kernel_rfl : Tryz.f330.body = some (codeOf Tryz.f330))
  rw [e_spec_GetInt] at h
  exact h
noncomputable def fns_330 : List (FuncId × Fn) := (330, F_spec_GetInt) :: fns_357
theorem g_330 : Good Tryz.prog ⟨tis, fns_330, [], false⟩ := g_357.cons m_spec_GetInt
noncomputable def spec_l4Num (r0 : L4Reader) : Option (L4Reader × Int) :=
  (spec_l4Part r0 2).bind fun t7 =>
  (spec_GetInt t7.2).bind fun t8 =>
  (cond t7.1.2.2 (some true) (some (!t8.2))).bind fun t19 =>
  some ((t7.1.1, t7.1.2.1, t19), t8.1)
noncomputable def F_spec_l4Num : Fn := ⟨[.ptr cL4Reader false], [.val false (.one (.int .i64)) true], fun a => spec_l4Num a⟩
def a_spec_l4Num : List (Nat × LoopAnn) := []
theorem e_spec_l4Num : fnDen ⟨tis, fns_330, [], false⟩ a_spec_l4Num Tryz.f264 (codeOf Tryz.f264) [.ptr cL4Reader false] [.val false (.one (.int .i64)) true] = fun a => spec_l4Num a := by kernel_rfl
theorem m_spec_l4Num : Meets Tryz.prog 264 F_spec_l4Num := by
  have h := meets_of (ann := a_spec_l4Num) (ps := [.ptr cL4Reader false]) (rs := [.val false (.one (.int .i64)) true]) g_330 mixed Tryz.func264 (by kernel_rfl) (by kernel_rfl : Tryz.f264.body = some (codeOf Tryz.f264))
  rw [e_spec_l4Num] at h
  exact h
noncomputable def fns_264 : List (FuncId × Fn) := (264, F_spec_l4Num) :: fns_330
theorem g_264 : Good Tryz.prog ⟨tis, fns_264, [], false⟩ := g_330.cons m_spec_l4Num
noncomputable def spec_l2Group_l0 (n0_1 : Int) (out3 : List Int) : Option ((Int × List Int) ⊕ (List Int)) :=
  cond (decide (n0_1 > 127))
    ((app [IntKind.u8.wrap (bor .i64 (band .i64 (n0_1.fdiv (2 ^ 7)) 127) 128)] out3).bind fun zs18 =>
    some (.inl (n0_1.fdiv (2 ^ 7), zs18)))
    (some (.inr out3))
noncomputable def spec_l2Group (n0 : Int) : Option (List Int) :=
  (loop (fun z => spec_l2Group_l0 z.1 z.2) (n0, [IntKind.u8.wrap (band .i64 n0 127)])).bind fun d =>
  some d
noncomputable def F_spec_l2Group : Fn := ⟨[.val false (.one (.int .i64)) false], [.val false (.one (.sl (.one (.int .u8)))) true], fun a => spec_l2Group a⟩
def a_spec_l2Group : List (Nat × LoopAnn) := [(0, ⟨⟨[(0, false, [.dat (.int .i64)]), (3, false, [.own 1000000000])], [(1000000000, .root (.one (.int .u8)) true)]⟩,
    ⟨[(3, false, [.own 1000000300])], [(1000000300, .root (.one (.int .u8)) true)]⟩, none⟩)]
theorem e_spec_l2Group : fnDen ⟨tis, fns_264, [], false⟩ a_spec_l2Group Tryz.f372 (codeOf Tryz.f372) [.val false (.one (.int .i64)) false] [.val false (.one (.sl (.one (.int .u8)))) true] = fun a => spec_l2Group a := by kernel_rfl
theorem m_spec_l2Group : Meets Tryz.prog 372 F_spec_l2Group := by
  have h := meets_of (ann := a_spec_l2Group) (ps := [.val false (.one (.int .i64)) false]) (rs := [.val false (.one (.sl (.one (.int .u8)))) true]) g_264 mixed Tryz.func372 (by kernel_rfl) (by kernel_rfl : Tryz.f372.body = some (codeOf Tryz.f372))
  rw [e_spec_l2Group] at h
  exact h
noncomputable def fns_372 : List (FuncId × Fn) := (372, F_spec_l2Group) :: fns_264
theorem g_372 : Good Tryz.prog ⟨tis, fns_372, [], false⟩ := g_264.cons m_spec_l2Group
noncomputable def spec_GetOid_l2 (p0 : List Int) (t5_1 : Int) (t6 : Int) (t7 : Int) (t8 : Bool) : Option ((Int × Int × Int × Bool) ⊕ (Int × Int × Int × Bool)) :=
  (cond t8 (some (decide (t5_1 < (p0.length : Int)))) (some false)).bind fun t25 =>
  (cond t25 (some (decide (t7 < 4))) (some false)).bind fun t29 =>
  cond t29
    ((at? p0 t5_1).bind fun x34 =>
    let t6_1 := bor .i64 (w64 (t6 * 2 ^ 7)) (w64 (band .u8 x34 127))
    (at? p0 t5_1).bind fun x41 =>
    some (.inl (w64 (t5_1 + 1), t6_1, w64 (t7 + 1), decide (x41 > 127))))
    (some (.inr (t5_1, t6, t7, t8)))
noncomputable def spec_GetOid_l0 (p0 : List Int) (t5 : Int) (t4 : List Int) : Option ((Int × List Int) ⊕ ((Int × List Int) ⊕ (Bool × List Int))) :=
  (cond (decide (t5 < (p0.length : Int))) (some (decide ((t4.length : Int) ≤ 10))) (some false)).bind fun t18 =>
  cond t18
    ((loop (fun z => spec_GetOid_l2 p0 z.1 z.2.1 z.2.2.1 z.2.2.2) (t5, 0, 0, true)).bind fun d =>
    (cond d.2.2.2
      (some true)
      ((spec_l2Group d.2.1).bind fun t51 =>
      some ((t51.length : Int) != d.2.2.1))).bind fun t55 =>
    cond t55
      (some (.inr (.inr (false, ([] : List Int)))))
      ((app t4 [d.2.1]).bind fun zs60 =>
      some (.inl (d.1, zs60))))
    (some (.inr (.inl (t5, t4))))
noncomputable def spec_GetOid (p0 : List Int) : Option ((List Int) × Bool) :=
  (loop (fun z => spec_GetOid_l0 p0 z.1 z.2) (0, ([] : List Int))).bind (Sum.elim (fun d_1 =>
    (cond (d_1.1 != (p0.length : Int))
      (some true)
      ((spec_OidOk d_1.2).bind fun t67 =>
      some (!t67))).bind fun t69 =>
    cond t69 (some (([] : List Int), false)) (some (d_1.2, true))) (fun r => some (r.2, r.1)))
noncomputable def F_spec_GetOid : Fn := ⟨[.val false (.one (.sl (.one (.int .u8)))) false], [.val false (.one (.sl (.one (.int .i64)))) true, .val false (.one .bool) true], fun a => spec_GetOid a⟩
def a_spec_GetOid : List (Nat × LoopAnn) := [(0, ⟨⟨[(4, false, [.own 1000000000]), (5, false, [.dat (.int .i64)]), (15, false, [.undef]), (16, false, [.undef]), (17, false, [.undef]), (21, false, [.undef]), (22, false, [.undef]), (23, false, [.undef]), (24, false, [.undef]), (27, false, [.undef]), (28, false, [.undef]), (50, false, [.undef]), (51, false, [.undef]), (52, false, [.undef]), (53, false, [.undef]), (54, false, [.undef])], [(1000000000, .root (.one (.int .i64)) true)]⟩,
    ⟨[(4, false, [.own 1000000300]), (5, false, [.dat (.int .i64)])], [(1000000300, .root (.one (.int .i64)) true)]⟩, some ⟨[(2, false, [.own 1000000600]), (3, false, [.dat .bool])], [(1000000600, .root (.one (.int .i64)) true)]⟩⟩),
  (2, ⟨⟨[(5, false, [.dat (.int .i64)]), (6, false, [.dat (.int .i64)]), (7, false, [.dat (.int .i64)]), (8, false, [.dat .bool]), (21, false, [.undef]), (22, false, [.undef]), (23, false, [.undef]), (24, false, [.undef]), (27, false, [.undef]), (28, false, [.undef])], []⟩,
    ⟨[(5, false, [.dat (.int .i64)]), (6, false, [.dat (.int .i64)]), (7, false, [.dat (.int .i64)]), (8, false, [.dat .bool]), (21, false, [.undef]), (22, false, [.undef]), (23, false, [.undef]), (24, false, [.undef]), (27, false, [.undef]), (28, false, [.undef])], []⟩, none⟩)]
theorem e_spec_GetOid : fnDen ⟨tis, fns_372, [], false⟩ a_spec_GetOid Tryz.f358 (codeOf Tryz.f358) [.val false (.one (.sl (.one (.int .u8)))) false] [.val false (.one (.sl (.one (.int .i64)))) true, .val false (.one .bool) true] = fun a => spec_GetOid a := by kernel_rfl
theorem m_spec_GetOid : Meets Tryz.prog 358 F_spec_GetOid := by
  have h := meets_of (ann := a_spec_GetOid) (ps := [.val false (.one (.sl (.one (.int .u8)))) false]) (rs := [.val false (.one (.sl (.one (.int .i64)))) true, .val false (.one .bool) true]) g_372 mixed Tryz.func358 (by kernel_rfl) (by kernel_rfl : Tryz.f358.body = some (codeOf Tryz.f358))
  rw [e_spec_GetOid] at h
  exact h
noncomputable def fns_358 : List (FuncId × Fn) := (358, F_spec_GetOid) :: fns_372
theorem g_358 : Good Tryz.prog ⟨tis, fns_358, [], false⟩ := g_372.cons m_spec_GetOid
noncomputable def spec_GetVal (b0 : List Int) (at1 : Int) : Option (Val × Int × Bool) :=
  (spec_GetTlv b0 at1).bind fun t16 =>
  cond (t16.1 == 2)
    ((spec_GetInt t16.2.1).bind fun t31 =>
    (cond (!t16.2.2.2) (some true) (some (!t31.2))).bind fun t53 =>
    (cond t53
      (some true)
      ((spec_ValOk (t16.1, t31.1, [], [])).bind fun t56 =>
      some (!t56))).bind fun t58 =>
    cond t58
      (some ((0, 0, [], []), 0, false))
      (some ((t16.1, t31.1, [], []), t16.2.2.1, true)))
    (cond (t16.1 == 4)
      ((cond (!t16.2.2.2) (some true) (some (!true))).bind fun t53_1 =>
      (cond t53_1
        (some true)
        ((spec_ValOk (t16.1, 0, bytesOf t16.2.1, [])).bind fun t56_1 =>
        some (!t56_1))).bind fun t58_1 =>
      cond t58_1
        (some ((0, 0, [], []), 0, false))
        (some ((t16.1, 0, bytesOf t16.2.1, []), t16.2.2.1, true)))
      (cond (t16.1 == 6)
        ((spec_GetOid t16.2.1).bind fun t44 =>
        (cond (!t16.2.2.2) (some true) (some (!t44.2))).bind fun t53_2 =>
        (cond t53_2
          (some true)
          ((spec_ValOk (t16.1, 0, [], t44.1)).bind fun t56_2 =>
          some (!t56_2))).bind fun t58_2 =>
        cond t58_2
          (some ((0, 0, [], []), 0, false))
          (some ((t16.1, 0, [], t44.1), t16.2.2.1, true)))
        (let is12 := (t16.2.1.length : Int) == 0
        (cond (!t16.2.2.2) (some true) (some (!is12))).bind fun t53_3 =>
        (cond t53_3
          (some true)
          ((spec_ValOk (t16.1, 0, [], [])).bind fun t56_3 =>
          some (!t56_3))).bind fun t58_3 =>
        cond t58_3
          (some ((0, 0, [], []), 0, false))
          (some ((t16.1, 0, [], []), t16.2.2.1, true)))))
noncomputable def F_spec_GetVal : Fn := ⟨[.val false (.one (.sl (.one (.int .u8)))) false, .val false (.one (.int .i64)) false], [.val true cVal true, .val false (.one (.int .i64)) true, .val false (.one .bool) true], fun a => spec_GetVal a.1 a.2⟩
def a_spec_GetVal : List (Nat × LoopAnn) := []
theorem e_spec_GetVal : fnDen ⟨tis, fns_358, [], false⟩ a_spec_GetVal Tryz.f359 (codeOf Tryz.f359) [.val false (.one (.sl (.one (.int .u8)))) false, .val false (.one (.int .i64)) false] [.val true cVal true, .val false (.one (.int .i64)) true, .val false (.one .bool) true] = fun a => spec_GetVal a.1 a.2 := by kernel_rfl
theorem m_spec_GetVal : Meets Tryz.prog 359 F_spec_GetVal := by
  have h := meets_of (ann := a_spec_GetVal) (ps := [.val false (.one (.sl (.one (.int .u8)))) false, .val false (.one (.int .i64)) false]) (rs := [.val true cVal true, .val false (.one (.int .i64)) true, .val false (.one .bool) true]) g_358 mixed Tryz.func359 (by kernel_rfl) (by kernel_rfl : Tryz.f359.body = some (codeOf Tryz.f359))
  rw [e_spec_GetVal] at h
  exact h
noncomputable def fns_359 : List (FuncId × Fn) := (359, F_spec_GetVal) :: fns_358
theorem g_359 : Good Tryz.prog ⟨tis, fns_359, [], false⟩ := g_358.cons m_spec_GetVal
noncomputable def spec_l4Bind (b0 : List Int) : Option (Bind × Bool) :=
  (spec_l4Part (b0, 0, false) 6).bind fun t15 =>
  (spec_GetOid t15.2).bind fun t16 =>
  (spec_GetVal b0 t15.1.2.1).bind fun t25 =>
  (cond t15.1.2.2 (some true) (some (!t16.2))).bind fun t36 =>
  (cond t36 (some true) (some (!t25.2.2))).bind fun t40 =>
  (cond t40 (some true) (some (t25.2.1 != (b0.length : Int)))).bind fun t46 =>
  cond t46
    (some (([], 0, 0, [], []), false))
    (some ((t16.1, t25.1.1, t25.1.2.1, t25.1.2.2.1, t25.1.2.2.2), true))
noncomputable def F_spec_l4Bind : Fn := ⟨[.val false (.one (.sl (.one (.int .u8)))) false], [.val true cBind true, .val false (.one .bool) true], fun a => spec_l4Bind a⟩
def a_spec_l4Bind : List (Nat × LoopAnn) := []
theorem e_spec_l4Bind : fnDen ⟨tis, fns_359, [], false⟩ a_spec_l4Bind Tryz.f331 (codeOf Tryz.f331) [.val false (.one (.sl (.one (.int .u8)))) false] [.val true cBind true, .val false (.one .bool) true] = fun a => spec_l4Bind a := by kernel_rfl
theorem m_spec_l4Bind : Meets Tryz.prog 331 F_spec_l4Bind := by
  have h := meets_of (ann := a_spec_l4Bind) (ps := [.val false (.one (.sl (.one (.int .u8)))) false]) (rs := [.val true cBind true, .val false (.one .bool) true]) g_359 mixed Tryz.func331 (by kernel_rfl) (by kernel_rfl : Tryz.f331.body = some (codeOf Tryz.f331))
  rw [e_spec_l4Bind] at h
  exact h
noncomputable def fns_331 : List (FuncId × Fn) := (331, F_spec_l4Bind) :: fns_359
theorem g_331 : Good Tryz.prog ⟨tis, fns_331, [], false⟩ := g_359.cons m_spec_l4Bind
noncomputable def spec_GetPdu_l0 (b0 : List Int) (b1 : Int) (b2 : Bool) (b0_1 : Int) (b1_1 : Int) (b2_1 : Int) (b3 : Int) (b0_2 : List Int) (b1_2 : Int) (b2_2 : Bool) (b4 : List Bind) : Option ((List Int × Int × Bool × Int × Int × Int × Int × List Int × Int × Bool × List Bind) ⊕ (List Int × Int × Bool × Int × Int × Int × Int × List Int × Int × Bool × List Bind)) :=
  (cond (!b2) (some (decide (b1_2 < (b0_2.length : Int)))) (some false)).bind fun t54 =>
  (cond t54 (some (decide ((b4.length : Int) ≤ 10))) (some false)).bind fun t60 =>
  cond t60
    ((spec_l4Part (b0_2, b1_2, b2_2) 48).bind fun t63 =>
    (spec_l4Bind t63.2).bind fun t64 =>
    (cond t63.1.2.2 (some true) (some (!t64.2))).bind fun t75 =>
    (app b4 [t64.1]).bind fun zs82 =>
    some (.inl (b0, b1, t75, b0_1, b1_1, b2_1, b3, t63.1.1, t63.1.2.1, t63.1.2.2, zs82)))
    (some (.inr (b0, b1, b2, b0_1, b1_1, b2_1, b3, b0_2, b1_2, b2_2, b4)))
noncomputable def spec_GetPdu (p0 : List Int) : Option (Pdu × Bool) :=
  (spec_GetTlv p0 0).bind fun t15 =>
  (spec_l4Num (t15.2.1, 0, false)).bind fun t26 =>
  (spec_l4Num t26.1).bind fun t29 =>
  (spec_l4Num t29.1).bind fun t32 =>
  (spec_l4Part t32.1 48).bind fun t35 =>
  (loop (fun z => spec_GetPdu_l0 z.1 z.2.1 z.2.2.1 z.2.2.2.1 z.2.2.2.2.1 z.2.2.2.2.2.1 z.2.2.2.2.2.2.1 z.2.2.2.2.2.2.2.1 z.2.2.2.2.2.2.2.2.1 z.2.2.2.2.2.2.2.2.2.1 z.2.2.2.2.2.2.2.2.2.2) (t35.1.1, t35.1.2.1, t35.1.2.2, t15.1, t26.2, t29.2, t32.2, t35.2, 0, false, [])).bind fun d =>
  (cond (!t15.2.2.2) (some true) (some (t15.2.2.1 != (p0.length : Int)))).bind fun t91 =>
  (cond t91 (some true) (some d.2.2.1)).bind fun t97 =>
  (cond t97 (some true) (some (d.2.1 != (t15.2.1.length : Int)))).bind fun t106 =>
  (cond t106
    (some true)
    (some (d.2.2.2.2.2.2.2.2.1 != (d.2.2.2.2.2.2.2.1.length : Int)))).bind fun t118 =>
  (cond t118
    (some true)
    ((spec_PduOk (d.2.2.2.1, d.2.2.2.2.1, d.2.2.2.2.2.1, d.2.2.2.2.2.2.1, d.2.2.2.2.2.2.2.2.2.2)).bind fun t121 =>
    some (!t121))).bind fun t123 =>
  cond t123
    (some ((0, 0, 0, 0, []), false))
    (some ((d.2.2.2.1, d.2.2.2.2.1, d.2.2.2.2.2.1, d.2.2.2.2.2.2.1, d.2.2.2.2.2.2.2.2.2.2), true))
noncomputable def F_spec_GetPdu : Fn := ⟨[.val false (.one (.sl (.one (.int .u8)))) false], [.val true cPdu true, .val false (.one .bool) true], fun a => spec_GetPdu a⟩
def a_spec_GetPdu : List (Nat × LoopAnn) := [(0, ⟨⟨[(44, false, [.undef]), (45, false, [.undef]), (46, false, [.undef]), (47, false, [.undef]), (48, false, [.undef]), (49, false, [.undef]), (50, false, [.undef]), (51, false, [.undef]), (52, false, [.undef]), (53, false, [.undef]), (56, false, [.undef]), (57, false, [.undef]), (58, false, [.undef]), (59, false, [.undef]), (73, false, [.undef]), (74, false, [.undef])], [(527360, .box [.dat (.sl (.one (.int .u8))), .dat (.int .i64), .dat .bool]), (789504, .box [.dat (.int .i64), .dat (.int .i64), .dat (.int .i64), .dat (.int .i64), .own 1000000000]), (1839104, .box [.dat (.sl (.one (.int .u8))), .dat (.int .i64), .dat .bool]), (1000000000, .root cBind true)]⟩,
    ⟨[], [(527360, .box [.dat (.sl (.one (.int .u8))), .dat (.int .i64), .dat .bool]), (789504, .box [.dat (.int .i64), .dat (.int .i64), .dat (.int .i64), .dat (.int .i64), .own 1000000300]), (1839104, .box [.dat (.sl (.one (.int .u8))), .dat (.int .i64), .dat .bool]), (1000000300, .root cBind true)]⟩, none⟩)]
theorem e_spec_GetPdu : fnDen ⟨tis, fns_331, [], false⟩ a_spec_GetPdu Tryz.f266 (codeOf Tryz.f266) [.val false (.one (.sl (.one (.int .u8)))) false] [.val true cPdu true, .val false (.one .bool) true] = fun a => spec_GetPdu a := by kernel_rfl
theorem m_spec_GetPdu : Meets Tryz.prog 266 F_spec_GetPdu := by
  have h := meets_of (ann := a_spec_GetPdu) (ps := [.val false (.one (.sl (.one (.int .u8)))) false]) (rs := [.val true cPdu true, .val false (.one .bool) true]) g_331 mixed Tryz.func266 (by kernel_rfl) (by kernel_rfl : Tryz.f266.body = some (codeOf Tryz.f266))
  rw [e_spec_GetPdu] at h
  exact h
noncomputable def fns_266 : List (FuncId × Fn) := (266, F_spec_GetPdu) :: fns_331
theorem g_266 : Good Tryz.prog ⟨tis, fns_266, [], false⟩ := g_331.cons m_spec_GetPdu
noncomputable def spec_GetMsg (p0 : List UInt8) (i1 : List Int) : Option (Pdu × Int) :=
  (spec_GetTlv i1 0).bind fun t17 =>
  (spec_l4Num (t17.2.1, 0, false)).bind fun t26 =>
  (spec_l4Part t26.1 4).bind fun t28 =>
  (cond (!t17.2.2.2) (some true) (some (t17.1 != 48))).bind fun t34 =>
  (cond t34 (some true) (some (t17.2.2.1 != (i1.length : Int)))).bind fun t40 =>
  (cond t40 (some true) (some t28.1.2.2)).bind fun t46 =>
  cond t46
    (some ((0, 0, 0, 0, []), 1))
    (cond (t26.2 != 1)
      (some ((0, 0, 0, 0, []), 2))
      (cond (!((bytesOf t28.2) == p0))
        (some ((0, 0, 0, 0, []), 3))
        ((cut t17.2.1 t28.1.2.1 (t17.2.1.length : Int)).bind fun t62 =>
        (spec_GetPdu t62).bind fun t63 =>
        cond (!t63.2) (some ((0, 0, 0, 0, []), 1)) (some (t63.1, 0)))))
noncomputable def F_spec_GetMsg : Fn := ⟨[.val false (.one .str) false, .val false (.one (.sl (.one (.int .u8)))) false], [.val true cPdu true, .val false (.one (.int .i64)) true], fun a => spec_GetMsg a.1 a.2⟩
def a_spec_GetMsg : List (Nat × LoopAnn) := []
theorem e_spec_GetMsg : fnDen ⟨tis, fns_266, [], false⟩ a_spec_GetMsg Tryz.f151 (codeOf Tryz.f151) [.val false (.one .str) false, .val false (.one (.sl (.one (.int .u8)))) false] [.val true cPdu true, .val false (.one (.int .i64)) true] = fun a => spec_GetMsg a.1 a.2 := by kernel_rfl
theorem m_spec_GetMsg : Meets Tryz.prog 151 F_spec_GetMsg := by
  have h := meets_of (ann := a_spec_GetMsg) (ps := [.val false (.one .str) false, .val false (.one (.sl (.one (.int .u8)))) false]) (rs := [.val true cPdu true, .val false (.one (.int .i64)) true]) g_266 mixed Tryz.func151 (by kernel_rfl) (by kernel_rfl : Tryz.f151.body = some (codeOf Tryz.f151))
  rw [e_spec_GetMsg] at h
  exact h
noncomputable def fns_151 : List (FuncId × Fn) := (151, F_spec_GetMsg) :: fns_266
theorem g_151 : Good Tryz.prog ⟨tis, fns_151, [], false⟩ := g_266.cons m_spec_GetMsg
noncomputable def spec_NeedOf (p0 : Agent) (i1 : Int) : Option Int :=
  (spec_AgentOk p0).bind fun t10 =>
  (cond (!t10)
    (some true)
    ((spec_l1In i1 0 (w64 ((p0.2.2.2.2.2.2.2.2.2.2.2.2.1.length : Int) - 1))).bind fun t18 =>
    some (!t18))).bind fun t20 =>
  cond t20
    (some 0)
    ((at? p0.2.2.2.2.2.2.2.2.2.2.2.2.1 i1).bind fun x24 =>
    (cond (x24.2.2.2.1 == 163)
      (some (p0.2.2.2.2.2.2.2.2.2.2.1 != x24.2.2.2.2.2.2.2.2.2.2.2.2.2.2.2.2.2.2.1))
      (some false)).bind fun t38 =>
    (cond t38
      (some (decide (x24.2.2.2.2.2.2.2.2.2.2.2.2.2.2.2.2.2.2.2.2 < 3)))
      (some false)).bind fun t43 =>
    cond t43
      (let t6 := w64 ((x24.2.2.2.2.2.2.2.1.length : Int) + 3)
      cond (x24.2.2.1 == 2)
        (some t6)
        (cond (x24.2.2.1 == 1)
          (let t4 := w64 ((w64 ((w64 ((x24.2.2.2.2.2.2.2.1.length : Int) - x24.2.2.2.2.2.2.2.2.2.2.2.2.2.2.2.2.2.2.2.1)) + 1)) + t6)
          some t4)
          ((spec_GetMsg p0.2.2.2.2.2.2.2.2.2.2.2.1 x24.2.1).bind fun t71 =>
          (cond (t71.2 != 0) (some true) (some (t71.1.1 == 162))).bind fun t80 =>
          cond t80
            (some 1)
            (let t4_1 := w64 ((t71.1.2.2.2.2.length : Int) + 3)
            some t4_1))))
      (cond (x24.2.2.1 == 2)
        (some 1)
        (cond (x24.2.2.1 == 1)
          (let t4_2 := w64 ((w64 ((w64 ((x24.2.2.2.2.2.2.2.1.length : Int) - x24.2.2.2.2.2.2.2.2.2.2.2.2.2.2.2.2.2.2.2.1)) + 1)) + 1)
          some t4_2)
          ((spec_GetMsg p0.2.2.2.2.2.2.2.2.2.2.2.1 x24.2.1).bind fun t71_1 =>
          (cond (t71_1.2 != 0) (some true) (some (t71_1.1.1 == 162))).bind fun t80_1 =>
          cond t80_1
            (some 1)
            (let t4_3 := w64 ((t71_1.1.2.2.2.2.length : Int) + 3)
            some t4_3)))))
noncomputable def F_spec_NeedOf : Fn := ⟨[.val true cAgent false, .val false (.one (.int .i64)) false], [.val false (.one (.int .i64)) true], fun a => spec_NeedOf a.1 a.2⟩
def a_spec_NeedOf : List (Nat × LoopAnn) := []
theorem e_spec_NeedOf : fnDen ⟨tis, fns_151, [], false⟩ a_spec_NeedOf Tryz.f55 (codeOf Tryz.f55) [.val true cAgent false, .val false (.one (.int .i64)) false] [.val false (.one (.int .i64)) true] = fun a => spec_NeedOf a.1 a.2 := by kernel_rfl
theorem m_spec_NeedOf : Meets Tryz.prog 55 F_spec_NeedOf := by
  have h := meets_of (ann := a_spec_NeedOf) (ps := [.val true cAgent false, .val false (.one (.int .i64)) false]) (rs := [.val false (.one (.int .i64)) true]) g_151 mixed Tryz.func55 (by kernel_rfl) (by kernel_rfl : Tryz.f55.body = some (codeOf Tryz.f55))
  rw [e_spec_NeedOf] at h
  exact h
noncomputable def fns_55 : List (FuncId × Fn) := (55, F_spec_NeedOf) :: fns_151
theorem g_55 : Good Tryz.prog ⟨tis, fns_55, [], false⟩ := g_151.cons m_spec_NeedOf
noncomputable def laws_toVec (a0 : Vec) : Option Vec :=
  some a0
noncomputable def F_laws_toVec : Fn := ⟨[.val true cVec false], [.val true cVec true], fun a => laws_toVec a⟩
def a_laws_toVec : List (Nat × LoopAnn) := []
theorem e_laws_toVec : fnDen ⟨tis, fns_55, [], false⟩ a_laws_toVec Tryz.f321 (codeOf Tryz.f321) [.val true cVec false] [.val true cVec true] = fun a => laws_toVec a := by kernel_rfl
theorem m_laws_toVec : Meets Tryz.prog 321 F_laws_toVec := by
  have h := meets_of (ann := a_laws_toVec) (ps := [.val true cVec false]) (rs := [.val true cVec true]) g_55 mixed Tryz.func321 (by kernel_rfl) (by kernel_rfl : Tryz.f321.body = some (codeOf Tryz.f321))
  rw [e_laws_toVec] at h
  exact h
noncomputable def fns_321 : List (FuncId × Fn) := (321, F_laws_toVec) :: fns_55
theorem g_321 : Good Tryz.prog ⟨tis, fns_321, [], false⟩ := g_55.cons m_laws_toVec
noncomputable def laws_toPt (a0 : Pt) : Option Pt :=
  (laws_toVec a0.2.2.2).bind fun t15 =>
  some (a0.1, a0.2.1, a0.2.2.1, t15.1, t15.2.1, t15.2.2.1, t15.2.2.2.1, t15.2.2.2.2)
noncomputable def F_laws_toPt : Fn := ⟨[.val true cPt false], [.val true cPt true], fun a => laws_toPt a⟩
def a_laws_toPt : List (Nat × LoopAnn) := []
theorem e_laws_toPt : fnDen ⟨tis, fns_321, [], false⟩ a_laws_toPt Tryz.f240 (codeOf Tryz.f240) [.val true cPt false] [.val true cPt true] = fun a => laws_toPt a := by kernel_rfl
theorem m_laws_toPt : Meets Tryz.prog 240 F_laws_toPt := by
  have h := meets_of (ann := a_laws_toPt) (ps := [.val true cPt false]) (rs := [.val true cPt true]) g_321 mixed Tryz.func240 (by kernel_rfl) (by kernel_rfl : Tryz.f240.body = some (codeOf Tryz.f240))
  rw [e_laws_toPt] at h
  exact h
noncomputable def fns_240 : List (FuncId × Fn) := (240, F_laws_toPt) :: fns_321
theorem g_240 : Good Tryz.prog ⟨tis, fns_240, [], false⟩ := g_321.cons m_laws_toPt
noncomputable def laws_toPtS_l0 (a0 : List Pt) (i4 : Int) (l : List Pt) : Option ((Int × List Pt) ⊕ (List Pt)) :=
  cond (decide (i4 < (a0.length : Int)))
    ((at? a0 i4).bind fun x18 =>
    (laws_toPt x18).bind fun t20 =>
    (ix l.length i4).bind fun j21 =>
    (l[j21]?).bind fun x =>
    some (.inl (w64 (i4 + 1), l.set j21 t20)))
    (some (.inr l))
noncomputable def laws_toPtS (a0 : List Pt) : Option (List Pt) :=
  (mkLen (a0.length : Int)).bind fun n =>
  (loop (fun z => laws_toPtS_l0 a0 z.1 z.2) (0, List.replicate n ((false, 0, false, 0, 0, 0, 0, 0) : Pt))).bind fun d =>
  some d
noncomputable def F_laws_toPtS : Fn := ⟨[.val false (.one (.sl cPt)) false], [.val false (.one (.sl cPt)) true], fun a => laws_toPtS a⟩
def a_laws_toPtS : List (Nat × LoopAnn) := [(0, ⟨⟨[(4, false, [.dat (.int .i64)])], [(265216, .keep cPt true)]⟩,
    ⟨[], [(265216, .keep cPt true)]⟩, none⟩)]
theorem e_laws_toPtS : fnDen ⟨tis, fns_240, [], false⟩ a_laws_toPtS Tryz.f121 (codeOf Tryz.f121) [.val false (.one (.sl cPt)) false] [.val false (.one (.sl cPt)) true] = fun a => laws_toPtS a := by kernel_rfl
theorem m_laws_toPtS : Meets Tryz.prog 121 F_laws_toPtS := by
  have h := meets_of (ann := a_laws_toPtS) (ps := [.val false (.one (.sl cPt)) false]) (rs := [.val false (.one (.sl cPt)) true]) g_240 mixed Tryz.func121 (by kernel_rfl) (by kernel_rfl : Tryz.f121.body = some (codeOf Tryz.f121))
  rw [e_laws_toPtS] at h
  exact h
noncomputable def fns_121 : List (FuncId × Fn) := (121, F_laws_toPtS) :: fns_240
theorem g_121 : Good Tryz.prog ⟨tis, fns_121, [], false⟩ := g_240.cons m_laws_toPtS
noncomputable def laws_toFent (a0 : Fent) : Option Fent :=
  some a0
noncomputable def F_laws_toFent : Fn := ⟨[.val true cFent false], [.val true cFent true], fun a => laws_toFent a⟩
def a_laws_toFent : List (Nat × LoopAnn) := []
theorem e_laws_toFent : fnDen ⟨tis, fns_121, [], false⟩ a_laws_toFent Tryz.f241 (codeOf Tryz.f241) [.val true cFent false] [.val true cFent true] = fun a => laws_toFent a := by kernel_rfl
theorem m_laws_toFent : Meets Tryz.prog 241 F_laws_toFent := by
  have h := meets_of (ann := a_laws_toFent) (ps := [.val true cFent false]) (rs := [.val true cFent true]) g_121 mixed Tryz.func241 (by kernel_rfl) (by kernel_rfl : Tryz.f241.body = some (codeOf Tryz.f241))
  rw [e_laws_toFent] at h
  exact h
noncomputable def fns_241 : List (FuncId × Fn) := (241, F_laws_toFent) :: fns_121
theorem g_241 : Good Tryz.prog ⟨tis, fns_241, [], false⟩ := g_121.cons m_laws_toFent
noncomputable def laws_toFentS_l0 (a0 : List Fent) (i4 : Int) (l : List Fent) : Option ((Int × List Fent) ⊕ (List Fent)) :=
  cond (decide (i4 < (a0.length : Int)))
    ((at? a0 i4).bind fun x18 =>
    (laws_toFent x18).bind fun t20 =>
    (ix l.length i4).bind fun j21 =>
    (l[j21]?).bind fun x =>
    some (.inl (w64 (i4 + 1), l.set j21 t20)))
    (some (.inr l))
noncomputable def laws_toFentS (a0 : List Fent) : Option (List Fent) :=
  (mkLen (a0.length : Int)).bind fun n =>
  (loop (fun z => laws_toFentS_l0 a0 z.1 z.2) (0, List.replicate n ((0, 0, 0, 0, false) : Fent))).bind fun d =>
  some d
noncomputable def F_laws_toFentS : Fn := ⟨[.val false (.one (.sl cFent)) false], [.val false (.one (.sl cFent)) true], fun a => laws_toFentS a⟩
def a_laws_toFentS : List (Nat × LoopAnn) := [(0, ⟨⟨[(4, false, [.dat (.int .i64)])], [(265216, .keep cFent true)]⟩,
    ⟨[], [(265216, .keep cFent true)]⟩, none⟩)]
theorem e_laws_toFentS : fnDen ⟨tis, fns_241, [], false⟩ a_laws_toFentS Tryz.f122 (codeOf Tryz.f122) [.val false (.one (.sl cFent)) false] [.val false (.one (.sl cFent)) true] = fun a => laws_toFentS a := by kernel_rfl
theorem m_laws_toFentS : Meets Tryz.prog 122 F_laws_toFentS := by
  have h := meets_of (ann := a_laws_toFentS) (ps := [.val false (.one (.sl cFent)) false]) (rs := [.val false (.one (.sl cFent)) true]) g_241 mixed Tryz.func122 (by kernel_rfl) (by kernel_rfl : Tryz.f122.body = some (codeOf Tryz.f122))
  rw [e_laws_toFentS] at h
  exact h
noncomputable def fns_122 : List (FuncId × Fn) := (122, F_laws_toFentS) :: fns_241
theorem g_122 : Good Tryz.prog ⟨tis, fns_122, [], false⟩ := g_241.cons m_laws_toFentS
noncomputable def laws_toVrow (a0 : Vrow) : Option Vrow :=
  some a0
noncomputable def F_laws_toVrow : Fn := ⟨[.val true cVrow false], [.val true cVrow true], fun a => laws_toVrow a⟩
def a_laws_toVrow : List (Nat × LoopAnn) := []
theorem e_laws_toVrow : fnDen ⟨tis, fns_122, [], false⟩ a_laws_toVrow Tryz.f322 (codeOf Tryz.f322) [.val true cVrow false] [.val true cVrow true] = fun a => laws_toVrow a := by kernel_rfl
theorem m_laws_toVrow : Meets Tryz.prog 322 F_laws_toVrow := by
  have h := meets_of (ann := a_laws_toVrow) (ps := [.val true cVrow false]) (rs := [.val true cVrow true]) g_122 mixed Tryz.func322 (by kernel_rfl) (by kernel_rfl : Tryz.f322.body = some (codeOf Tryz.f322))
  rw [e_laws_toVrow] at h
  exact h
noncomputable def fns_322 : List (FuncId × Fn) := (322, F_laws_toVrow) :: fns_122
theorem g_322 : Good Tryz.prog ⟨tis, fns_322, [], false⟩ := g_122.cons m_laws_toVrow
noncomputable def laws_toVrowS_l0 (a0 : List Vrow) (i4 : Int) (l : List Vrow) : Option ((Int × List Vrow) ⊕ (List Vrow)) :=
  cond (decide (i4 < (a0.length : Int)))
    ((at? a0 i4).bind fun x18 =>
    (laws_toVrow x18).bind fun t20 =>
    (ix l.length i4).bind fun j21 =>
    (l[j21]?).bind fun x =>
    some (.inl (w64 (i4 + 1), l.set j21 t20)))
    (some (.inr l))
noncomputable def laws_toVrowS (a0 : List Vrow) : Option (List Vrow) :=
  (mkLen (a0.length : Int)).bind fun n =>
  (loop (fun z => laws_toVrowS_l0 a0 z.1 z.2) (0, List.replicate n ((0, 0, 0) : Vrow))).bind fun d =>
  some d
noncomputable def F_laws_toVrowS : Fn := ⟨[.val false (.one (.sl cVrow)) false], [.val false (.one (.sl cVrow)) true], fun a => laws_toVrowS a⟩
def a_laws_toVrowS : List (Nat × LoopAnn) := [(0, ⟨⟨[(4, false, [.dat (.int .i64)])], [(265216, .keep cVrow true)]⟩,
    ⟨[], [(265216, .keep cVrow true)]⟩, none⟩)]
theorem e_laws_toVrowS : fnDen ⟨tis, fns_322, [], false⟩ a_laws_toVrowS Tryz.f242 (codeOf Tryz.f242) [.val false (.one (.sl cVrow)) false] [.val false (.one (.sl cVrow)) true] = fun a => laws_toVrowS a := by kernel_rfl
theorem m_laws_toVrowS : Meets Tryz.prog 242 F_laws_toVrowS := by
  have h := meets_of (ann := a_laws_toVrowS) (ps := [.val false (.one (.sl cVrow)) false]) (rs := [.val false (.one (.sl cVrow)) true]) g_322 mixed Tryz.func242 (by kernel_rfl) (by kernel_rfl : Tryz.f242.body = some (codeOf Tryz.f242))
  rw [e_laws_toVrowS] at h
  exact h
noncomputable def fns_242 : List (FuncId × Fn) := (242, F_laws_toVrowS) :: fns_322
theorem g_242 : Good Tryz.prog ⟨tis, fns_242, [], false⟩ := g_322.cons m_laws_toVrowS
noncomputable def laws_toIntS_l0 (a0 : List Int) (i4 : Int) (l : List Int) : Option ((Int × List Int) ⊕ (List Int)) :=
  cond (decide (i4 < (a0.length : Int)))
    ((at? a0 i4).bind fun x18 =>
    (ix l.length i4).bind fun j20 =>
    (l[j20]?).bind fun x =>
    some (.inl (w64 (i4 + 1), l.set j20 x18)))
    (some (.inr l))
noncomputable def laws_toIntS (a0 : List Int) : Option (List Int) :=
  (mkLen (a0.length : Int)).bind fun n =>
  (loop (fun z => laws_toIntS_l0 a0 z.1 z.2) (0, List.replicate n (0 : Int))).bind fun d =>
  some d
noncomputable def F_laws_toIntS : Fn := ⟨[.val false (.one (.sl (.one (.int .i64)))) false], [.val false (.one (.sl (.one (.int .i64)))) true], fun a => laws_toIntS a⟩
def a_laws_toIntS : List (Nat × LoopAnn) := [(0, ⟨⟨[(4, false, [.dat (.int .i64)])], [(265216, .keep (.one (.int .i64)) true)]⟩,
    ⟨[], [(265216, .keep (.one (.int .i64)) true)]⟩, none⟩)]
theorem e_laws_toIntS : fnDen ⟨tis, fns_242, [], false⟩ a_laws_toIntS Tryz.f243 (codeOf Tryz.f243) [.val false (.one (.sl (.one (.int .i64)))) false] [.val false (.one (.sl (.one (.int .i64)))) true] = fun a => laws_toIntS a := by kernel_rfl
theorem m_laws_toIntS : Meets Tryz.prog 243 F_laws_toIntS := by
  have h := meets_of (ann := a_laws_toIntS) (ps := [.val false (.one (.sl (.one (.int .i64)))) false]) (rs := [.val false (.one (.sl (.one (.int .i64)))) true]) g_242 mixed Tryz.func243 (by kernel_rfl) (by kernel_rfl : Tryz.f243.body = some (codeOf Tryz.f243))
  rw [e_laws_toIntS] at h
  exact h
noncomputable def fns_243 : List (FuncId × Fn) := (243, F_laws_toIntS) :: fns_242
theorem g_243 : Good Tryz.prog ⟨tis, fns_243, [], false⟩ := g_242.cons m_laws_toIntS
noncomputable def laws_toVtab (a0 : Vtab) : Option Vtab :=
  (laws_toVrowS a0.1).bind fun t6 =>
  (laws_toIntS a0.2).bind fun t10 =>
  some (t6, t10)
noncomputable def F_laws_toVtab : Fn := ⟨[.val true cVtab false], [.val true cVtab true], fun a => laws_toVtab a⟩
def a_laws_toVtab : List (Nat × LoopAnn) := []
theorem e_laws_toVtab : fnDen ⟨tis, fns_243, [], false⟩ a_laws_toVtab Tryz.f123 (codeOf Tryz.f123) [.val true cVtab false] [.val true cVtab true] = fun a => laws_toVtab a := by kernel_rfl
theorem m_laws_toVtab : Meets Tryz.prog 123 F_laws_toVtab := by
  have h := meets_of (ann := a_laws_toVtab) (ps := [.val true cVtab false]) (rs := [.val true cVtab true]) g_243 mixed Tryz.func123 (by kernel_rfl) (by kernel_rfl : Tryz.f123.body = some (codeOf Tryz.f123))
  rw [e_laws_toVtab] at h
  exact h
noncomputable def fns_123 : List (FuncId × Fn) := (123, F_laws_toVtab) :: fns_243
theorem g_123 : Good Tryz.prog ⟨tis, fns_123, [], false⟩ := g_243.cons m_laws_toVtab
noncomputable def laws_toBridge (a0 : Bridge) : Option Bridge :=
  (laws_toPtS a0.2.2.1).bind fun t12 =>
  (laws_toFentS a0.2.2.2.1).bind fun t16 =>
  (laws_toVtab (a0.2.2.2.2.1, a0.2.2.2.2.2.1)).bind fun t20 =>
  some (a0.1, a0.2.1, t12, t16, t20.1, t20.2, a0.2.2.2.2.2.2.1, a0.2.2.2.2.2.2.2.1, a0.2.2.2.2.2.2.2.2.1, a0.2.2.2.2.2.2.2.2.2.1, a0.2.2.2.2.2.2.2.2.2.2)
noncomputable def F_laws_toBridge : Fn := ⟨[.val true cBridge false], [.val true cBridge true], fun a => laws_toBridge a⟩
def a_laws_toBridge : List (Nat × LoopAnn) := []
theorem e_laws_toBridge : fnDen ⟨tis, fns_123, [], false⟩ a_laws_toBridge Tryz.f42 (codeOf Tryz.f42) [.val true cBridge false] [.val true cBridge true] = fun a => laws_toBridge a := by kernel_rfl
theorem m_laws_toBridge : Meets Tryz.prog 42 F_laws_toBridge := by
  have h := meets_of (ann := a_laws_toBridge) (ps := [.val true cBridge false]) (rs := [.val true cBridge true]) g_123 mixed Tryz.func42 (by kernel_rfl) (by kernel_rfl : Tryz.f42.body = some (codeOf Tryz.f42))
  rw [e_laws_toBridge] at h
  exact h
noncomputable def fns_42 : List (FuncId × Fn) := (42, F_laws_toBridge) :: fns_123
theorem g_42 : Good Tryz.prog ⟨tis, fns_42, [], false⟩ := g_123.cons m_laws_toBridge
noncomputable def laws_toByteS_l0 (a0 : List Int) (i4 : Int) (l : List Int) : Option ((Int × List Int) ⊕ (List Int)) :=
  cond (decide (i4 < (a0.length : Int)))
    ((at? a0 i4).bind fun x18 =>
    (ix l.length i4).bind fun j20 =>
    (l[j20]?).bind fun x =>
    some (.inl (w64 (i4 + 1), l.set j20 x18)))
    (some (.inr l))
noncomputable def laws_toByteS (a0 : List Int) : Option (List Int) :=
  (mkLen (a0.length : Int)).bind fun n =>
  (loop (fun z => laws_toByteS_l0 a0 z.1 z.2) (0, List.replicate n (0 : Int))).bind fun d =>
  some d
noncomputable def F_laws_toByteS : Fn := ⟨[.val false (.one (.sl (.one (.int .u8)))) false], [.val false (.one (.sl (.one (.int .u8)))) true], fun a => laws_toByteS a⟩
def a_laws_toByteS : List (Nat × LoopAnn) := [(0, ⟨⟨[(4, false, [.dat (.int .i64)])], [(265216, .keep (.one (.int .u8)) true)]⟩,
    ⟨[], [(265216, .keep (.one (.int .u8)) true)]⟩, none⟩)]
theorem e_laws_toByteS : fnDen ⟨tis, fns_42, [], false⟩ a_laws_toByteS Tryz.f60 (codeOf Tryz.f60) [.val false (.one (.sl (.one (.int .u8)))) false] [.val false (.one (.sl (.one (.int .u8)))) true] = fun a => laws_toByteS a := by kernel_rfl
theorem m_laws_toByteS : Meets Tryz.prog 60 F_laws_toByteS := by
  have h := meets_of (ann := a_laws_toByteS) (ps := [.val false (.one (.sl (.one (.int .u8)))) false]) (rs := [.val false (.one (.sl (.one (.int .u8)))) true]) g_42 mixed Tryz.func60 (by kernel_rfl) (by kernel_rfl : Tryz.f60.body = some (codeOf Tryz.f60))
  rw [e_laws_toByteS] at h
  exact h
noncomputable def fns_60 : List (FuncId × Fn) := (60, F_laws_toByteS) :: fns_42
theorem g_60 : Good Tryz.prog ⟨tis, fns_60, [], false⟩ := g_42.cons m_laws_toByteS
noncomputable def laws_toVal (a0 : Val) : Option Val :=
  (laws_toIntS a0.2.2.2).bind fun t15 =>
  some (a0.1, a0.2.1, a0.2.2.1, t15)
noncomputable def F_laws_toVal : Fn := ⟨[.val true cVal false], [.val true cVal true], fun a => laws_toVal a⟩
def a_laws_toVal : List (Nat × LoopAnn) := []
theorem e_laws_toVal : fnDen ⟨tis, fns_60, [], false⟩ a_laws_toVal Tryz.f244 (codeOf Tryz.f244) [.val true cVal false] [.val true cVal true] = fun a => laws_toVal a := by kernel_rfl
theorem m_laws_toVal : Meets Tryz.prog 244 F_laws_toVal := by
  have h := meets_of (ann := a_laws_toVal) (ps := [.val true cVal false]) (rs := [.val true cVal true]) g_60 mixed Tryz.func244 (by kernel_rfl) (by kernel_rfl : Tryz.f244.body = some (codeOf Tryz.f244))
  rw [e_laws_toVal] at h
  exact h
noncomputable def fns_244 : List (FuncId × Fn) := (244, F_laws_toVal) :: fns_60
theorem g_244 : Good Tryz.prog ⟨tis, fns_244, [], false⟩ := g_60.cons m_laws_toVal
noncomputable def laws_toBind (a0 : Bind) : Option Bind :=
  (laws_toIntS a0.1).bind fun t6 =>
  (laws_toVal a0.2).bind fun t10 =>
  some (t6, t10.1, t10.2.1, t10.2.2.1, t10.2.2.2)
noncomputable def F_laws_toBind : Fn := ⟨[.val true cBind false], [.val true cBind true], fun a => laws_toBind a⟩
def a_laws_toBind : List (Nat × LoopAnn) := []
theorem e_laws_toBind : fnDen ⟨tis, fns_244, [], false⟩ a_laws_toBind Tryz.f124 (codeOf Tryz.f124) [.val true cBind false] [.val true cBind true] = fun a => laws_toBind a := by kernel_rfl
theorem m_laws_toBind : Meets Tryz.prog 124 F_laws_toBind := by
  have h := meets_of (ann := a_laws_toBind) (ps := [.val true cBind false]) (rs := [.val true cBind true]) g_244 mixed Tryz.func124 (by kernel_rfl) (by kernel_rfl : Tryz.f124.body = some (codeOf Tryz.f124))
  rw [e_laws_toBind] at h
  exact h
noncomputable def fns_124 : List (FuncId × Fn) := (124, F_laws_toBind) :: fns_244
theorem g_124 : Good Tryz.prog ⟨tis, fns_124, [], false⟩ := g_244.cons m_laws_toBind
noncomputable def laws_toBindS_l0 (a0 : List Bind) (i4 : Int) (l : List Bind) : Option ((Int × List Bind) ⊕ (List Bind)) :=
  cond (decide (i4 < (a0.length : Int)))
    ((at? a0 i4).bind fun x18 =>
    (laws_toBind x18).bind fun t20 =>
    (ix l.length i4).bind fun j21 =>
    (l[j21]?).bind fun x =>
    some (.inl (w64 (i4 + 1), l.set j21 t20)))
    (some (.inr l))
noncomputable def laws_toBindS (a0 : List Bind) : Option (List Bind) :=
  (mkLen (a0.length : Int)).bind fun n =>
  (loop (fun z => laws_toBindS_l0 a0 z.1 z.2) (0, List.replicate n (([], 0, 0, [], []) : Bind))).bind fun d =>
  some d
noncomputable def F_laws_toBindS : Fn := ⟨[.val false (.one (.sl cBind)) false], [.val false (.one (.sl cBind)) true], fun a => laws_toBindS a⟩
def a_laws_toBindS : List (Nat × LoopAnn) := [(0, ⟨⟨[(4, false, [.dat (.int .i64)])], [(265216, .keep cBind true)]⟩,
    ⟨[], [(265216, .keep cBind true)]⟩, none⟩)]
theorem e_laws_toBindS : fnDen ⟨tis, fns_124, [], false⟩ a_laws_toBindS Tryz.f43 (codeOf Tryz.f43) [.val false (.one (.sl cBind)) false] [.val false (.one (.sl cBind)) true] = fun a => laws_toBindS a := by kernel_rfl
theorem m_laws_toBindS : Meets Tryz.prog 43 F_laws_toBindS := by
  have h := meets_of (ann := a_laws_toBindS) (ps := [.val false (.one (.sl cBind)) false]) (rs := [.val false (.one (.sl cBind)) true]) g_124 mixed Tryz.func43 (by kernel_rfl) (by kernel_rfl : Tryz.f43.body = some (codeOf Tryz.f43))
  rw [e_laws_toBindS] at h
  exact h
noncomputable def fns_43 : List (FuncId × Fn) := (43, F_laws_toBindS) :: fns_124
theorem g_43 : Good Tryz.prog ⟨tis, fns_43, [], false⟩ := g_124.cons m_laws_toBindS
noncomputable def laws_toPdu (a0 : Pdu) : Option Pdu :=
  (laws_toBindS a0.2.2.2.2).bind fun t18 =>
  some (a0.1, a0.2.1, a0.2.2.1, a0.2.2.2.1, t18)
noncomputable def F_laws_toPdu : Fn := ⟨[.val true cPdu false], [.val true cPdu true], fun a => laws_toPdu a⟩
def a_laws_toPdu : List (Nat × LoopAnn) := []
theorem e_laws_toPdu : fnDen ⟨tis, fns_43, [], false⟩ a_laws_toPdu Tryz.f333 (codeOf Tryz.f333) [.val true cPdu false] [.val true cPdu true] = fun a => laws_toPdu a := by kernel_rfl
theorem m_laws_toPdu : Meets Tryz.prog 333 F_laws_toPdu := by
  have h := meets_of (ann := a_laws_toPdu) (ps := [.val true cPdu false]) (rs := [.val true cPdu true]) g_43 mixed Tryz.func333 (by kernel_rfl) (by kernel_rfl : Tryz.f333.body = some (codeOf Tryz.f333))
  rw [e_laws_toPdu] at h
  exact h
noncomputable def fns_333 : List (FuncId × Fn) := (333, F_laws_toPdu) :: fns_43
theorem g_333 : Good Tryz.prog ⟨tis, fns_333, [], false⟩ := g_43.cons m_laws_toPdu
noncomputable def laws_toJob (a0 : Job) : Option Job :=
  (laws_toByteS a0.2.1).bind fun t9 =>
  (laws_toPdu (a0.2.2.2.1, a0.2.2.2.2.1, a0.2.2.2.2.2.1, a0.2.2.2.2.2.2.1, a0.2.2.2.2.2.2.2.1)).bind fun t16 =>
  (laws_toBridge (a0.2.2.2.2.2.2.2.2.1, a0.2.2.2.2.2.2.2.2.2.1, a0.2.2.2.2.2.2.2.2.2.2.1, a0.2.2.2.2.2.2.2.2.2.2.2.1, a0.2.2.2.2.2.2.2.2.2.2.2.2.1, a0.2.2.2.2.2.2.2.2.2.2.2.2.2.1, a0.2.2.2.2.2.2.2.2.2.2.2.2.2.2.1, a0.2.2.2.2.2.2.2.2.2.2.2.2.2.2.2.1, a0.2.2.2.2.2.2.2.2.2.2.2.2.2.2.2.2.1, a0.2.2.2.2.2.2.2.2.2.2.2.2.2.2.2.2.2.1, a0.2.2.2.2.2.2.2.2.2.2.2.2.2.2.2.2.2.2.1)).bind fun t20 =>
  some (a0.1, t9, a0.2.2.1, t16.1, t16.2.1, t16.2.2.1, t16.2.2.2.1, t16.2.2.2.2, t20.1, t20.2.1, t20.2.2.1, t20.2.2.2.1, t20.2.2.2.2.1, t20.2.2.2.2.2.1, t20.2.2.2.2.2.2.1, t20.2.2.2.2.2.2.2.1, t20.2.2.2.2.2.2.2.2.1, t20.2.2.2.2.2.2.2.2.2.1, t20.2.2.2.2.2.2.2.2.2.2, a0.2.2.2.2.2.2.2.2.2.2.2.2.2.2.2.2.2.2.2.1, a0.2.2.2.2.2.2.2.2.2.2.2.2.2.2.2.2.2.2.2.2)
noncomputable def F_laws_toJob : Fn := ⟨[.val true cJob false], [.val true cJob true], fun a => laws_toJob a⟩
def a_laws_toJob : List (Nat × LoopAnn) := []
theorem e_laws_toJob : fnDen ⟨tis, fns_333, [], false⟩ a_laws_toJob Tryz.f267 (codeOf Tryz.f267) [.val true cJob false] [.val true cJob true] = fun a => laws_toJob a := by kernel_rfl
theorem m_laws_toJob : Meets Tryz.prog 267 F_laws_toJob := by
  have h := meets_of (ann := a_laws_toJob) (ps := [.val true cJob false]) (rs := [.val true cJob true]) g_333 mixed Tryz.func267 (by kernel_rfl) (by kernel_rfl : Tryz.f267.body = some (codeOf Tryz.f267))
  rw [e_laws_toJob] at h
  exact h
noncomputable def fns_267 : List (FuncId × Fn) := (267, F_laws_toJob) :: fns_333
theorem g_267 : Good Tryz.prog ⟨tis, fns_267, [], false⟩ := g_333.cons m_laws_toJob
noncomputable def laws_toJobS_l0 (a0 : List Job) (i4 : Int) (l : List Job) : Option ((Int × List Job) ⊕ (List Job)) :=
  cond (decide (i4 < (a0.length : Int)))
    ((at? a0 i4).bind fun x18 =>
    (laws_toJob x18).bind fun t20 =>
    (ix l.length i4).bind fun j21 =>
    (l[j21]?).bind fun x =>
    some (.inl (w64 (i4 + 1), l.set j21 t20)))
    (some (.inr l))
noncomputable def laws_toJobS (a0 : List Job) : Option (List Job) :=
  (mkLen (a0.length : Int)).bind fun n =>
  (loop (fun z => laws_toJobS_l0 a0 z.1 z.2) (0, List.replicate n ((0, [], 0, 0, 0, 0, 0, [], 0, [], [], [], [], [], 0, 0, 0, 0, 0, 0, 0) : Job))).bind fun d =>
  some d
noncomputable def F_laws_toJobS : Fn := ⟨[.val false (.one (.sl cJob)) false], [.val false (.one (.sl cJob)) true], fun a => laws_toJobS a⟩
def a_laws_toJobS : List (Nat × LoopAnn) := [(0, ⟨⟨[(4, false, [.dat (.int .i64)])], [(265216, .keep cJob true)]⟩,
    ⟨[], [(265216, .keep cJob true)]⟩, none⟩)]
theorem e_laws_toJobS : fnDen ⟨tis, fns_267, [], false⟩ a_laws_toJobS Tryz.f152 (codeOf Tryz.f152) [.val false (.one (.sl cJob)) false] [.val false (.one (.sl cJob)) true] = fun a => laws_toJobS a := by kernel_rfl
theorem m_laws_toJobS : Meets Tryz.prog 152 F_laws_toJobS := by
  have h := meets_of (ann := a_laws_toJobS) (ps := [.val false (.one (.sl cJob)) false]) (rs := [.val false (.one (.sl cJob)) true]) g_267 mixed Tryz.func152 (by kernel_rfl) (by kernel_rfl : Tryz.f152.body = some (codeOf Tryz.f152))
  rw [e_laws_toJobS] at h
  exact h
noncomputable def fns_152 : List (FuncId × Fn) := (152, F_laws_toJobS) :: fns_267
theorem g_152 : Good Tryz.prog ⟨tis, fns_152, [], false⟩ := g_267.cons m_laws_toJobS
noncomputable def laws_toAgent (a0 : Agent) : Option Agent :=
  (laws_toBridge (a0.1, a0.2.1, a0.2.2.1, a0.2.2.2.1, a0.2.2.2.2.1, a0.2.2.2.2.2.1, a0.2.2.2.2.2.2.1, a0.2.2.2.2.2.2.2.1, a0.2.2.2.2.2.2.2.2.1, a0.2.2.2.2.2.2.2.2.2.1, a0.2.2.2.2.2.2.2.2.2.2.1)).bind fun t6 =>
  (laws_toJobS a0.2.2.2.2.2.2.2.2.2.2.2.2.1).bind fun t13 =>
  some (t6.1, t6.2.1, t6.2.2.1, t6.2.2.2.1, t6.2.2.2.2.1, t6.2.2.2.2.2.1, t6.2.2.2.2.2.2.1, t6.2.2.2.2.2.2.2.1, t6.2.2.2.2.2.2.2.2.1, t6.2.2.2.2.2.2.2.2.2.1, t6.2.2.2.2.2.2.2.2.2.2, a0.2.2.2.2.2.2.2.2.2.2.2.1, t13, a0.2.2.2.2.2.2.2.2.2.2.2.2.2.1, a0.2.2.2.2.2.2.2.2.2.2.2.2.2.2)
noncomputable def F_laws_toAgent : Fn := ⟨[.val true cAgent false], [.val true cAgent true], fun a => laws_toAgent a⟩
def a_laws_toAgent : List (Nat × LoopAnn) := []
theorem e_laws_toAgent : fnDen ⟨tis, fns_152, [], false⟩ a_laws_toAgent Tryz.f56 (codeOf Tryz.f56) [.val true cAgent false] [.val true cAgent true] = fun a => laws_toAgent a := by kernel_rfl
theorem m_laws_toAgent : Meets Tryz.prog 56 F_laws_toAgent := by
  have h := meets_of (ann := a_laws_toAgent) (ps := [.val true cAgent false]) (rs := [.val true cAgent true]) g_152 mixed Tryz.func56 (by kernel_rfl) (by kernel_rfl : Tryz.f56.body = some (codeOf Tryz.f56))
  rw [e_laws_toAgent] at h
  exact h
noncomputable def fns_56 : List (FuncId × Fn) := (56, F_laws_toAgent) :: fns_152
theorem g_56 : Good Tryz.prog ⟨tis, fns_56, [], false⟩ := g_152.cons m_laws_toAgent
noncomputable def impl_in (n0 : Int) (low1 : Int) (high2 : Int) : Option Bool :=
  (cond (decide (n0 ≥ low1)) (some (decide (n0 ≤ high2))) (some false)).bind fun t14 =>
  some t14
noncomputable def F_impl_in : Fn := ⟨[.val false (.one (.int .i64)) false, .val false (.one (.int .i64)) false, .val false (.one (.int .i64)) false], [.val false (.one .bool) true], fun a => impl_in a.1 a.2.1 a.2.2⟩
def a_impl_in : List (Nat × LoopAnn) := []
theorem e_impl_in : fnDen ⟨tis, fns_56, [], false⟩ a_impl_in Tryz.f85 (codeOf Tryz.f85) [.val false (.one (.int .i64)) false, .val false (.one (.int .i64)) false, .val false (.one (.int .i64)) false] [.val false (.one .bool) true] = fun a => impl_in a.1 a.2.1 a.2.2 := by kernel_rfl
theorem m_impl_in : Meets Tryz.prog 85 F_impl_in := by
  have h := meets_of (ann := a_impl_in) (ps := [.val false (.one (.int .i64)) false, .val false (.one (.int .i64)) false, .val false (.one (.int .i64)) false]) (rs := [.val false (.one .bool) true]) g_56 mixed Tryz.func85 (by kernel_rfl) (by kernel_rfl : Tryz.f85.body = some (codeOf Tryz.f85))
  rw [e_impl_in] at h
  exact h
noncomputable def fns_85 : List (FuncId × Fn) := (85, F_impl_in) :: fns_56
theorem g_85 : Good Tryz.prog ⟨tis, fns_85, [], false⟩ := g_56.cons m_impl_in
noncomputable def impl_allPorts (ports0 : Int) : Option Int :=
  (shl .i64 1 ports0).bind fun t4 =>
  some (w64 (t4 - 1))
noncomputable def F_impl_allPorts : Fn := ⟨[.val false (.one (.int .i64)) false], [.val false (.one (.int .i64)) true], fun a => impl_allPorts a⟩
def a_impl_allPorts : List (Nat × LoopAnn) := []
theorem e_impl_allPorts : fnDen ⟨tis, fns_85, [], false⟩ a_impl_allPorts Tryz.f206 (codeOf Tryz.f206) [.val false (.one (.int .i64)) false] [.val false (.one (.int .i64)) true] = fun a => impl_allPorts a := by kernel_rfl
theorem m_impl_allPorts : Meets Tryz.prog 206 F_impl_allPorts := by
  have h := meets_of (ann := a_impl_allPorts) (ps := [.val false (.one (.int .i64)) false]) (rs := [.val false (.one (.int .i64)) true]) g_85 mixed Tryz.func206 (by kernel_rfl) (by kernel_rfl : Tryz.f206.body = some (codeOf Tryz.f206))
  rw [e_impl_allPorts] at h
  exact h
noncomputable def fns_206 : List (FuncId × Fn) := (206, F_impl_allPorts) :: fns_85
theorem g_206 : Good Tryz.prog ⟨tis, fns_206, [], false⟩ := g_85.cons m_impl_allPorts
noncomputable def impl_RowAt_l0 (v0 : Vtab) (id1 : Int) (t10 : Int) : Option (Int ⊕ (Unit ⊕ Int)) :=
  cond (decide (t10 < (v0.1.length : Int)))
    ((at? v0.1 t10).bind fun x13 =>
    cond (x13.1 == id1) (some (.inr (.inr t10))) (some (.inl (w64 (t10 + 1)))))
    (some (.inr (.inl ())))
noncomputable def impl_RowAt (v0 : Vtab) (id1 : Int) : Option Int :=
  (loop (fun z => impl_RowAt_l0 v0 id1 z) 0).bind (Sum.elim (fun d =>
    some (-1)) (fun r => some r))
noncomputable def F_impl_RowAt : Fn := ⟨[.val true cVtab false, .val false (.one (.int .i64)) false], [.val false (.one (.int .i64)) true], fun a => impl_RowAt a.1 a.2⟩
def a_impl_RowAt : List (Nat × LoopAnn) := [(0, ⟨⟨[(10, false, [.dat (.int .i64)])], []⟩,
    ⟨[], []⟩, some ⟨[(4, false, [.dat (.int .i64)])], []⟩⟩)]
theorem e_impl_RowAt : fnDen ⟨tis, fns_206, [], false⟩ a_impl_RowAt Tryz.f207 (codeOf Tryz.f207) [.val true cVtab false, .val false (.one (.int .i64)) false] [.val false (.one (.int .i64)) true] = fun a => impl_RowAt a.1 a.2 := by kernel_rfl
theorem m_impl_RowAt : Meets Tryz.prog 207 F_impl_RowAt := by
  have h := meets_of (ann := a_impl_RowAt) (ps := [.val true cVtab false, .val false (.one (.int .i64)) false]) (rs := [.val false (.one (.int .i64)) true]) g_206 mixed Tryz.func207 (by kernel_rfl) (by kernel_rfl : Tryz.f207.body = some (codeOf Tryz.f207))
  rw [e_impl_RowAt] at h
  exact h
noncomputable def fns_207 : List (FuncId × Fn) := (207, F_impl_RowAt) :: fns_206
theorem g_207 : Good Tryz.prog ⟨tis, fns_207, [], false⟩ := g_206.cons m_impl_RowAt
noncomputable def impl_VtabOk_l0 (p0 : Vtab) (i1 : Int) (t28 : Int) : Option (Int ⊕ (Unit ⊕ Bool)) :=
  cond (decide (t28 < (p0.1.length : Int)))
    ((at? p0.1 t28).bind fun x31 =>
    (impl_in x31.1 1 99).bind fun t35 =>
    (cond (!t35)
      (some true)
      ((cond (decide (t28 > 0))
        ((at? p0.1 (w64 (t28 - 1))).bind fun x45 =>
        some (decide (x45.1 ≥ x31.1)))
        (some false)).bind fun t51 =>
      some t51)).bind fun t52 =>
    (cond t52
      (some true)
      ((impl_allPorts i1).bind fun t57 =>
      (impl_in x31.2.1 0 t57).bind fun t58 =>
      some (!t58))).bind fun t60 =>
    (cond t60 (some true) (some ((bclr .i64 x31.2.2 x31.2.1) != 0))).bind fun t68 =>
    cond t68 (some (.inr (.inr false))) (some (.inl (w64 (t28 + 1)))))
    (some (.inr (.inl ())))
noncomputable def impl_VtabOk_l2 (p0 : Vtab) (t73 : Int) : Option (Int ⊕ (Unit ⊕ Bool)) :=
  cond (decide (t73 < (p0.2.length : Int)))
    ((at? p0.2 t73).bind fun x75 =>
    (impl_RowAt p0 x75).bind fun t79 =>
    cond (decide (t79 < 0)) (some (.inr (.inr false))) (some (.inl (w64 (t73 + 1)))))
    (some (.inr (.inl ())))
noncomputable def impl_VtabOk (p0 : Vtab) (i1 : Int) : Option Bool :=
  (impl_in i1 1 6).bind fun t10 =>
  (cond (!t10) (some true) (some ((p0.2.length : Int) != i1))).bind fun t18 =>
  (cond t18 (some true) (some (decide ((p0.1.length : Int) > 6)))).bind fun t24 =>
  cond t24
    (some false)
    ((loop (fun z => impl_VtabOk_l0 p0 i1 z) 0).bind (Sum.elim (fun d =>
      (loop (fun z => impl_VtabOk_l2 p0 z) 0).bind (Sum.elim (fun d_1 =>
        some true) (fun r => some r))) (fun r_1 => some r_1)))
noncomputable def F_impl_VtabOk : Fn := ⟨[.val true cVtab false, .val false (.one (.int .i64)) false], [.val false (.one .bool) true], fun a => impl_VtabOk a.1 a.2⟩
def a_impl_VtabOk : List (Nat × LoopAnn) := [(0, ⟨⟨[(28, false, [.dat (.int .i64)]), (38, false, [.undef]), (39, false, [.undef]), (40, false, [.undef]), (41, false, [.undef]), (42, false, [.undef]), (43, false, [.undef]), (44, false, [.undef]), (45, false, [.undef]), (46, false, [.undef]), (47, false, [.undef]), (48, false, [.undef]), (49, false, [.undef]), (50, false, [.undef]), (51, false, [.undef]), (54, false, [.undef]), (55, false, [.undef]), (56, false, [.undef]), (57, false, [.undef]), (58, false, [.undef]), (59, false, [.undef]), (62, false, [.undef]), (63, false, [.undef]), (64, false, [.undef]), (65, false, [.undef]), (66, false, [.undef]), (67, false, [.undef])], []⟩,
    ⟨[], []⟩, some ⟨[(4, false, [.dat .bool])], []⟩⟩),
  (2, ⟨⟨[(73, false, [.dat (.int .i64)])], []⟩,
    ⟨[], []⟩, some ⟨[(4, false, [.dat .bool])], []⟩⟩)]
theorem e_impl_VtabOk : fnDen ⟨tis, fns_207, [], false⟩ a_impl_VtabOk Tryz.f91 (codeOf Tryz.f91) [.val true cVtab false, .val false (.one (.int .i64)) false] [.val false (.one .bool) true] = fun a => impl_VtabOk a.1 a.2 := by kernel_rfl
theorem m_impl_VtabOk : Meets Tryz.prog 91 F_impl_VtabOk := by
  have h := meets_of (ann := a_impl_VtabOk) (ps := [.val true cVtab false, .val false (.one (.int .i64)) false]) (rs := [.val false (.one .bool) true]) g_207 mixed Tryz.func91 (by kernel_rfl) (by kernel_rfl : Tryz.f91.body = some (codeOf Tryz.f91))
  rw [e_impl_VtabOk] at h
  exact h
noncomputable def fns_91 : List (FuncId × Fn) := (91, F_impl_VtabOk) :: fns_207
theorem g_91 : Good Tryz.prog ⟨tis, fns_91, [], false⟩ := g_207.cons m_impl_VtabOk
noncomputable def impl_VecOk (v0 : Vec) : Option Bool :=
  (impl_in v0.1 1 99).bind fun t5 =>
  (cond t5
    ((impl_in v0.2.1 0 100000).bind fun t9 =>
    some t9)
    (some false)).bind fun t10 =>
  (cond t10
    ((impl_in v0.2.2.1 0 10).bind fun t14 =>
    some t14)
    (some false)).bind fun t15 =>
  (cond t15
    ((impl_in v0.2.2.2.1 1 99).bind fun t19 =>
    some t19)
    (some false)).bind fun t20 =>
  (cond t20
    ((impl_in v0.2.2.2.2 0 7).bind fun t24 =>
    some t24)
    (some false)).bind fun t25 =>
  some t25
noncomputable def F_impl_VecOk : Fn := ⟨[.val true cVec false], [.val false (.one .bool) true], fun a => impl_VecOk a⟩
def a_impl_VecOk : List (Nat × LoopAnn) := []
theorem e_impl_VecOk : fnDen ⟨tis, fns_91, [], false⟩ a_impl_VecOk Tryz.f163 (codeOf Tryz.f163) [.val true cVec false] [.val false (.one .bool) true] = fun a => impl_VecOk a := by kernel_rfl
theorem m_impl_VecOk : Meets Tryz.prog 163 F_impl_VecOk := by
  have h := meets_of (ann := a_impl_VecOk) (ps := [.val true cVec false]) (rs := [.val false (.one .bool) true]) g_91 mixed Tryz.func163 (by kernel_rfl) (by kernel_rfl : Tryz.f163.body = some (codeOf Tryz.f163))
  rw [e_impl_VecOk] at h
  exact h
noncomputable def fns_163 : List (FuncId × Fn) := (163, F_impl_VecOk) :: fns_91
theorem g_163 : Good Tryz.prog ⟨tis, fns_163, [], false⟩ := g_91.cons m_impl_VecOk
noncomputable def impl_PtOk (p0 : Pt) : Option Bool :=
  (impl_in p0.2.1 1 1000).bind fun t5 =>
  (cond (!t5)
    (some true)
    ((cond p0.2.2.1 (some (!p0.1)) (some false)).bind fun t14 =>
    some t14)).bind fun t15 =>
  cond t15
    (some false)
    (cond p0.2.2.1
      ((impl_VecOk p0.2.2.2).bind fun t20 =>
      some t20)
      (let t2 := p0.2.2.2.1 == 0 && (p0.2.2.2.2.1 == 0 && (p0.2.2.2.2.2.1 == 0 && (p0.2.2.2.2.2.2.1 == 0 && (p0.2.2.2.2.2.2.2 == 0))))
      some t2))
noncomputable def F_impl_PtOk : Fn := ⟨[.val true cPt false], [.val false (.one .bool) true], fun a => impl_PtOk a⟩
def a_impl_PtOk : List (Nat × LoopAnn) := []
theorem e_impl_PtOk : fnDen ⟨tis, fns_163, [], false⟩ a_impl_PtOk Tryz.f100 (codeOf Tryz.f100) [.val true cPt false] [.val false (.one .bool) true] = fun a => impl_PtOk a := by kernel_rfl
theorem m_impl_PtOk : Meets Tryz.prog 100 F_impl_PtOk := by
  have h := meets_of (ann := a_impl_PtOk) (ps := [.val true cPt false]) (rs := [.val false (.one .bool) true]) g_163 mixed Tryz.func100 (by kernel_rfl) (by kernel_rfl : Tryz.f100.body = some (codeOf Tryz.f100))
  rw [e_impl_PtOk] at h
  exact h
noncomputable def fns_100 : List (FuncId × Fn) := (100, F_impl_PtOk) :: fns_163
theorem g_100 : Good Tryz.prog ⟨tis, fns_100, [], false⟩ := g_163.cons m_impl_PtOk
noncomputable def impl_fentOk (e0 : Fent) : Option Bool :=
  (impl_in e0.1 1 99).bind fun t5 =>
  (cond t5
    ((impl_in e0.2.1 1 9999).bind fun t9 =>
    some t9)
    (some false)).bind fun t10 =>
  (cond t10
    ((impl_in e0.2.2.1 0 7).bind fun t14 =>
    some t14)
    (some false)).bind fun t15 =>
  (cond t15
    ((impl_in e0.2.2.2.1 0 4).bind fun t19 =>
    some t19)
    (some false)).bind fun t20 =>
  (cond t20
    ((cond (!e0.2.2.2.2) (some true) (some (e0.2.2.2.1 == 0))).bind fun t29 =>
    some t29)
    (some false)).bind fun t30 =>
  some t30
noncomputable def F_impl_fentOk : Fn := ⟨[.val true cFent false], [.val false (.one .bool) true], fun a => impl_fentOk a⟩
def a_impl_fentOk : List (Nat × LoopAnn) := []
theorem e_impl_fentOk : fnDen ⟨tis, fns_100, [], false⟩ a_impl_fentOk Tryz.f224 (codeOf Tryz.f224) [.val true cFent false] [.val false (.one .bool) true] = fun a => impl_fentOk a := by kernel_rfl
theorem m_impl_fentOk : Meets Tryz.prog 224 F_impl_fentOk := by
  have h := meets_of (ann := a_impl_fentOk) (ps := [.val true cFent false]) (rs := [.val false (.one .bool) true]) g_100 mixed Tryz.func224 (by kernel_rfl) (by kernel_rfl : Tryz.f224.body = some (codeOf Tryz.f224))
  rw [e_impl_fentOk] at h
  exact h
noncomputable def fns_224 : List (FuncId × Fn) := (224, F_impl_fentOk) :: fns_100
theorem g_224 : Good Tryz.prog ⟨tis, fns_224, [], false⟩ := g_100.cons m_impl_fentOk
noncomputable def impl_behind (e0 : Fent) (tag1 : Int) (mac2 : Int) : Option Bool :=
  (cond (decide (e0.1 > tag1))
    (some true)
    ((cond (e0.1 == tag1) (some (decide (e0.2.1 > mac2))) (some false)).bind fun t21 =>
    some t21)).bind fun t22 =>
  some t22
noncomputable def F_impl_behind : Fn := ⟨[.val true cFent false, .val false (.one (.int .i64)) false, .val false (.one (.int .i64)) false], [.val false (.one .bool) true], fun a => impl_behind a.1 a.2.1 a.2.2⟩
def a_impl_behind : List (Nat × LoopAnn) := []
theorem e_impl_behind : fnDen ⟨tis, fns_224, [], false⟩ a_impl_behind Tryz.f225 (codeOf Tryz.f225) [.val true cFent false, .val false (.one (.int .i64)) false, .val false (.one (.int .i64)) false] [.val false (.one .bool) true] = fun a => impl_behind a.1 a.2.1 a.2.2 := by kernel_rfl
theorem m_impl_behind : Meets Tryz.prog 225 F_impl_behind := by
  have h := meets_of (ann := a_impl_behind) (ps := [.val true cFent false, .val false (.one (.int .i64)) false, .val false (.one (.int .i64)) false]) (rs := [.val false (.one .bool) true]) g_224 mixed Tryz.func225 (by kernel_rfl) (by kernel_rfl : Tryz.f225.body = some (codeOf Tryz.f225))
  rw [e_impl_behind] at h
  exact h
noncomputable def fns_225 : List (FuncId × Fn) := (225, F_impl_behind) :: fns_224
theorem g_225 : Good Tryz.prog ⟨tis, fns_225, [], false⟩ := g_224.cons m_impl_behind
noncomputable def impl_FdbOk_l0 (l0 : List Fent) (t7 : Int) : Option (Int ⊕ (Unit ⊕ Bool)) :=
  cond (decide (t7 < (l0.length : Int)))
    ((at? l0 t7).bind fun x10 =>
    (impl_fentOk x10).bind fun t13 =>
    (cond (!t13)
      (some true)
      ((cond (decide (t7 > 0))
        ((at? l0 (w64 (t7 - 1))).bind fun x23 =>
        (at? l0 (w64 (t7 - 1))).bind fun x29 =>
        (impl_behind x10 x23.1 x29.2.1).bind fun t32 =>
        some (!t32))
        (some false)).bind fun t34 =>
      some t34)).bind fun t35 =>
    cond t35 (some (.inr (.inr false))) (some (.inl (w64 (t7 + 1)))))
    (some (.inr (.inl ())))
noncomputable def impl_FdbOk (l0 : List Fent) : Option Bool :=
  (loop (fun z => impl_FdbOk_l0 l0 z) 0).bind (Sum.elim (fun d =>
    let t2 := decide ((l0.length : Int) ≤ 12)
    some t2) (fun r => some r))
noncomputable def F_impl_FdbOk : Fn := ⟨[.val false (.one (.sl cFent)) false], [.val false (.one .bool) true], fun a => impl_FdbOk a⟩
def a_impl_FdbOk : List (Nat × LoopAnn) := [(0, ⟨⟨[(7, false, [.dat (.int .i64)]), (16, false, [.undef]), (17, false, [.undef]), (18, false, [.undef]), (19, false, [.undef]), (20, false, [.undef]), (21, false, [.undef]), (22, false, [.undef]), (23, false, [.undef]), (24, false, [.undef]), (25, false, [.undef]), (26, false, [.undef]), (27, false, [.undef]), (28, false, [.undef]), (29, false, [.undef]), (30, false, [.undef]), (31, false, [.undef]), (32, false, [.undef]), (33, false, [.undef]), (34, false, [.undef])], []⟩,
    ⟨[], []⟩, some ⟨[(2, false, [.dat .bool])], []⟩⟩)]
theorem e_impl_FdbOk : fnDen ⟨tis, fns_225, [], false⟩ a_impl_FdbOk Tryz.f101 (codeOf Tryz.f101) [.val false (.one (.sl cFent)) false] [.val false (.one .bool) true] = fun a => impl_FdbOk a := by kernel_rfl
theorem m_impl_FdbOk : Meets Tryz.prog 101 F_impl_FdbOk := by
  have h := meets_of (ann := a_impl_FdbOk) (ps := [.val false (.one (.sl cFent)) false]) (rs := [.val false (.one .bool) true]) g_225 mixed Tryz.func101 (by kernel_rfl) (by kernel_rfl : Tryz.f101.body = some (codeOf Tryz.f101))
  rw [e_impl_FdbOk] at h
  exact h
noncomputable def fns_101 : List (FuncId × Fn) := (101, F_impl_FdbOk) :: fns_225
theorem g_101 : Good Tryz.prog ⟨tis, fns_101, [], false⟩ := g_225.cons m_impl_FdbOk
noncomputable def impl_isCount (n0 : Int) : Option Bool :=
  (impl_in n0 0 1000000).bind fun t4 =>
  some t4
noncomputable def F_impl_isCount : Fn := ⟨[.val false (.one (.int .i64)) false], [.val false (.one .bool) true], fun a => impl_isCount a⟩
def a_impl_isCount : List (Nat × LoopAnn) := []
theorem e_impl_isCount : fnDen ⟨tis, fns_101, [], false⟩ a_impl_isCount Tryz.f102 (codeOf Tryz.f102) [.val false (.one (.int .i64)) false] [.val false (.one .bool) true] = fun a => impl_isCount a := by kernel_rfl
theorem m_impl_isCount : Meets Tryz.prog 102 F_impl_isCount := by
  have h := meets_of (ann := a_impl_isCount) (ps := [.val false (.one (.int .i64)) false]) (rs := [.val false (.one .bool) true]) g_101 mixed Tryz.func102 (by kernel_rfl) (by kernel_rfl : Tryz.f102.body = some (codeOf Tryz.f102))
  rw [e_impl_isCount] at h
  exact h
noncomputable def fns_102 : List (FuncId × Fn) := (102, F_impl_isCount) :: fns_101
theorem g_102 : Good Tryz.prog ⟨tis, fns_102, [], false⟩ := g_101.cons m_impl_isCount
noncomputable def impl_BridgeOk_l0 (p0 : Bridge) (t8 : Int) : Option (Int ⊕ (Unit ⊕ Bool)) :=
  cond (decide (t8 < (p0.2.2.1.length : Int)))
    ((at? p0.2.2.1 t8).bind fun x10 =>
    (impl_PtOk x10).bind fun t13 =>
    cond (!t13) (some (.inr (.inr false))) (some (.inl (w64 (t8 + 1)))))
    (some (.inr (.inl ())))
noncomputable def impl_BridgeOk (p0 : Bridge) : Option Bool :=
  (loop (fun z => impl_BridgeOk_l0 p0 z) 0).bind (Sum.elim (fun d =>
    (impl_in p0.1 1 99).bind fun t18 =>
    (cond (!t18) (some true) (some (decide ((p0.2.1.length : Int) > 10)))).bind fun t25 =>
    (cond t25
      (some true)
      ((impl_in (p0.2.2.1.length : Int) 1 6).bind fun t30 =>
      some (!t30))).bind fun t32 =>
    (cond t32
      (some true)
      ((impl_FdbOk p0.2.2.2.1).bind fun t36 =>
      some (!t36))).bind fun t38 =>
    (cond t38
      (some true)
      ((impl_VtabOk (p0.2.2.2.2.1, p0.2.2.2.2.2.1) (p0.2.2.1.length : Int)).bind fun t45 =>
      some (!t45))).bind fun t47 =>
    cond t47
      (some false)
      ((impl_isCount p0.2.2.2.2.2.2.1).bind fun t50 =>
      (cond t50
        ((impl_isCount p0.2.2.2.2.2.2.2.1).bind fun t54 =>
        some t54)
        (some false)).bind fun t55 =>
      (cond t55
        ((impl_isCount p0.2.2.2.2.2.2.2.2.1).bind fun t59 =>
        some t59)
        (some false)).bind fun t60 =>
      (cond t60
        ((impl_isCount p0.2.2.2.2.2.2.2.2.2.1).bind fun t64 =>
        some t64)
        (some false)).bind fun t65 =>
      (cond t65
        ((impl_isCount p0.2.2.2.2.2.2.2.2.2.2).bind fun t69 =>
        some t69)
        (some false)).bind fun t70 =>
      some t70)) (fun r => some r))
noncomputable def F_impl_BridgeOk : Fn := ⟨[.val true cBridge false], [.val false (.one .bool) true], fun a => impl_BridgeOk a⟩
def a_impl_BridgeOk : List (Nat × LoopAnn) := [(0, ⟨⟨[(8, false, [.dat (.int .i64)])], []⟩,
    ⟨[], []⟩, some ⟨[(2, false, [.dat .bool])], []⟩⟩)]
theorem e_impl_BridgeOk : fnDen ⟨tis, fns_102, [], false⟩ a_impl_BridgeOk Tryz.f27 (codeOf Tryz.f27) [.val true cBridge false] [.val false (.one .bool) true] = fun a => impl_BridgeOk a := by kernel_rfl
theorem m_impl_BridgeOk : Meets Tryz.prog 27 F_impl_BridgeOk := by
  have h := meets_of (ann := a_impl_BridgeOk) (ps := [.val true cBridge false]) (rs := [.val false (.one .bool) true]) g_102 mixed Tryz.func27 (by kernel_rfl) (by kernel_rfl : Tryz.f27.body = some (codeOf Tryz.f27))
  rw [e_impl_BridgeOk] at h
  exact h
noncomputable def fns_27 : List (FuncId × Fn) := (27, F_impl_BridgeOk) :: fns_102
theorem g_27 : Good Tryz.prog ⟨tis, fns_27, [], false⟩ := g_102.cons m_impl_BridgeOk
noncomputable def impl_OidOk_l0 (o0 : List Int) (t7 : Int) : Option (Int ⊕ (Unit ⊕ Bool)) :=
  cond (decide (t7 < (o0.length : Int)))
    ((at? o0 t7).bind fun x9 =>
    (impl_in x9 0 100000).bind fun t12 =>
    cond (!t12) (some (.inr (.inr false))) (some (.inl (w64 (t7 + 1)))))
    (some (.inr (.inl ())))
noncomputable def impl_OidOk (o0 : List Int) : Option Bool :=
  (loop (fun z => impl_OidOk_l0 o0 z) 0).bind (Sum.elim (fun d =>
    (impl_in (o0.length : Int) 1 10).bind fun t17 =>
    some t17) (fun r => some r))
noncomputable def F_impl_OidOk : Fn := ⟨[.val false (.one (.sl (.one (.int .i64)))) false], [.val false (.one .bool) true], fun a => impl_OidOk a⟩
def a_impl_OidOk : List (Nat × LoopAnn) := [(0, ⟨⟨[(7, false, [.dat (.int .i64)])], []⟩,
    ⟨[], []⟩, some ⟨[(2, false, [.dat .bool])], []⟩⟩)]
theorem e_impl_OidOk : fnDen ⟨tis, fns_27, [], false⟩ a_impl_OidOk Tryz.f194 (codeOf Tryz.f194) [.val false (.one (.sl (.one (.int .i64)))) false] [.val false (.one .bool) true] = fun a => impl_OidOk a := by kernel_rfl
theorem m_impl_OidOk : Meets Tryz.prog 194 F_impl_OidOk := by
  have h := meets_of (ann := a_impl_OidOk) (ps := [.val false (.one (.sl (.one (.int .i64)))) false]) (rs := [.val false (.one .bool) true]) g_27 mixed Tryz.func194 (by kernel_rfl) (by kernel_rfl : Tryz.f194.body = some (codeOf Tryz.f194))
  rw [e_impl_OidOk] at h
  exact h
noncomputable def fns_194 : List (FuncId × Fn) := (194, F_impl_OidOk) :: fns_27
theorem g_194 : Good Tryz.prog ⟨tis, fns_194, [], false⟩ := g_27.cons m_impl_OidOk
noncomputable def impl_SameOid_l0 (a0 : List Int) (b1 : List Int) (t13 : Int) : Option (Int ⊕ (Unit ⊕ Bool)) :=
  cond (decide (t13 < (a0.length : Int)))
    ((at? a0 t13).bind fun x18 =>
    (at? b1 t13).bind fun x22 =>
    cond (x18 != x22) (some (.inr (.inr false))) (some (.inl (w64 (t13 + 1)))))
    (some (.inr (.inl ())))
noncomputable def impl_SameOid (a0 : List Int) (b1 : List Int) : Option Bool :=
  cond ((a0.length : Int) != (b1.length : Int))
    (some false)
    ((loop (fun z => impl_SameOid_l0 a0 b1 z) 0).bind (Sum.elim (fun d =>
      some true) (fun r => some r)))
noncomputable def F_impl_SameOid : Fn := ⟨[.val false (.one (.sl (.one (.int .i64)))) false, .val false (.one (.sl (.one (.int .i64)))) false], [.val false (.one .bool) true], fun a => impl_SameOid a.1 a.2⟩
def a_impl_SameOid : List (Nat × LoopAnn) := [(0, ⟨⟨[(13, false, [.dat (.int .i64)])], []⟩,
    ⟨[], []⟩, some ⟨[(4, false, [.dat .bool])], []⟩⟩)]
theorem e_impl_SameOid : fnDen ⟨tis, fns_194, [], false⟩ a_impl_SameOid Tryz.f18 (codeOf Tryz.f18) [.val false (.one (.sl (.one (.int .i64)))) false, .val false (.one (.sl (.one (.int .i64)))) false] [.val false (.one .bool) true] = fun a => impl_SameOid a.1 a.2 := by kernel_rfl
theorem m_impl_SameOid : Meets Tryz.prog 18 F_impl_SameOid := by
  have h := meets_of (ann := a_impl_SameOid) (ps := [.val false (.one (.sl (.one (.int .i64)))) false, .val false (.one (.sl (.one (.int .i64)))) false]) (rs := [.val false (.one .bool) true]) g_194 mixed Tryz.func18 (by kernel_rfl) (by kernel_rfl : Tryz.f18.body = some (codeOf Tryz.f18))
  rw [e_impl_SameOid] at h
  exact h
noncomputable def fns_18 : List (FuncId × Fn) := (18, F_impl_SameOid) :: fns_194
theorem g_18 : Good Tryz.prog ⟨tis, fns_18, [], false⟩ := g_194.cons m_impl_SameOid
noncomputable def impl_SameVal (a0 : Val) (b1 : Val) : Option Bool :=
  (cond (a0.1 == b1.1) (some (a0.2.1 == b1.2.1)) (some false)).bind fun t16 =>
  (cond t16 (some (a0.2.2.1 == b1.2.2.1)) (some false)).bind fun t23 =>
  (cond t23
    ((impl_SameOid a0.2.2.2 b1.2.2.2).bind fun t29 =>
    some t29)
    (some false)).bind fun t30 =>
  some t30
noncomputable def F_impl_SameVal : Fn := ⟨[.val true cVal false, .val true cVal false], [.val false (.one .bool) true], fun a => impl_SameVal a.1 a.2⟩
def a_impl_SameVal : List (Nat × LoopAnn) := []
theorem e_impl_SameVal : fnDen ⟨tis, fns_18, [], false⟩ a_impl_SameVal Tryz.f19 (codeOf Tryz.f19) [.val true cVal false, .val true cVal false] [.val false (.one .bool) true] = fun a => impl_SameVal a.1 a.2 := by kernel_rfl
theorem m_impl_SameVal : Meets Tryz.prog 19 F_impl_SameVal := by
  have h := meets_of (ann := a_impl_SameVal) (ps := [.val true cVal false, .val true cVal false]) (rs := [.val false (.one .bool) true]) g_18 mixed Tryz.func19 (by kernel_rfl) (by kernel_rfl : Tryz.f19.body = some (codeOf Tryz.f19))
  rw [e_impl_SameVal] at h
  exact h
noncomputable def fns_19 : List (FuncId × Fn) := (19, F_impl_SameVal) :: fns_18
theorem g_19 : Good Tryz.prog ⟨tis, fns_19, [], false⟩ := g_18.cons m_impl_SameVal
noncomputable def impl_isInt (n0 : Int) : Option Bool :=
  (impl_in n0 (-2147483648) 2147483647).bind fun t4 =>
  some t4
noncomputable def F_impl_isInt : Fn := ⟨[.val false (.one (.int .i64)) false], [.val false (.one .bool) true], fun a => impl_isInt a⟩
def a_impl_isInt : List (Nat × LoopAnn) := []
theorem e_impl_isInt : fnDen ⟨tis, fns_19, [], false⟩ a_impl_isInt Tryz.f196 (codeOf Tryz.f196) [.val false (.one (.int .i64)) false] [.val false (.one .bool) true] = fun a => impl_isInt a := by kernel_rfl
theorem m_impl_isInt : Meets Tryz.prog 196 F_impl_isInt := by
  have h := meets_of (ann := a_impl_isInt) (ps := [.val false (.one (.int .i64)) false]) (rs := [.val false (.one .bool) true]) g_19 mixed Tryz.func196 (by kernel_rfl) (by kernel_rfl : Tryz.f196.body = some (codeOf Tryz.f196))
  rw [e_impl_isInt] at h
  exact h
noncomputable def fns_196 : List (FuncId × Fn) := (196, F_impl_isInt) :: fns_19
theorem g_196 : Good Tryz.prog ⟨tis, fns_196, [], false⟩ := g_19.cons m_impl_isInt
noncomputable def impl_ValOk (v0 : Val) : Option Bool :=
  cond (v0.1 == 2)
    ((impl_isInt v0.2.1).bind fun t17 =>
    (cond t17
      ((impl_SameVal v0 (v0.1, v0.2.1, [], [])).bind fun t43 =>
      some t43)
      (some false)).bind fun t44 =>
    some t44)
    (cond (v0.1 == 4)
      (let ok4 := decide ((v0.2.2.1.length : Int) ≤ 20)
      (cond ok4
        ((impl_SameVal v0 (v0.1, 0, v0.2.2.1, [])).bind fun t43_1 =>
        some t43_1)
        (some false)).bind fun t44_1 =>
      some t44_1)
      (cond (v0.1 == 6)
        ((impl_OidOk v0.2.2.2).bind fun t34 =>
        (cond t34
          ((impl_SameVal v0 (v0.1, 0, [], v0.2.2.2)).bind fun t43_2 =>
          some t43_2)
          (some false)).bind fun t44_2 =>
        some t44_2)
        (cond (v0.1 == 5)
          (cond (v0.1 == 5)
            (((impl_SameVal v0 (v0.1, 0, [], [])).bind fun t43_3 =>
            some t43_3).bind fun t44_3 =>
            some t44_3)
            (some false))
          (cond (v0.1 == 128)
            (cond (v0.1 == 128)
              (((impl_SameVal v0 (v0.1, 0, [], [])).bind fun t43_4 =>
              some t43_4).bind fun t44_4 =>
              some t44_4)
              (some false))
            (cond (v0.1 == 130)
              (((impl_SameVal v0 (v0.1, 0, [], [])).bind fun t43_5 =>
              some t43_5).bind fun t44_5 =>
              some t44_5)
              (some false))))))
noncomputable def F_impl_ValOk : Fn := ⟨[.val true cVal false], [.val false (.one .bool) true], fun a => impl_ValOk a⟩
def a_impl_ValOk : List (Nat × LoopAnn) := []
theorem e_impl_ValOk : fnDen ⟨tis, fns_196, [], false⟩ a_impl_ValOk Tryz.f195 (codeOf Tryz.f195) [.val true cVal false] [.val false (.one .bool) true] = fun a => impl_ValOk a := by kernel_rfl
theorem m_impl_ValOk : Meets Tryz.prog 195 F_impl_ValOk := by
  have h := meets_of (ann := a_impl_ValOk) (ps := [.val true cVal false]) (rs := [.val false (.one .bool) true]) g_196 mixed Tryz.func195 (by kernel_rfl) (by kernel_rfl : Tryz.f195.body = some (codeOf Tryz.f195))
  rw [e_impl_ValOk] at h
  exact h
noncomputable def fns_195 : List (FuncId × Fn) := (195, F_impl_ValOk) :: fns_196
theorem g_195 : Good Tryz.prog ⟨tis, fns_195, [], false⟩ := g_196.cons m_impl_ValOk
noncomputable def impl_PduOk_l1 (p0 : Pdu) (t35 : Int) : Option (Int ⊕ (Unit ⊕ Bool)) :=
  cond (decide (t35 < (p0.2.2.2.2.length : Int)))
    ((at? p0.2.2.2.2 t35).bind fun x38 =>
    (cond (decide (t35 ≥ 10))
      (some true)
      ((impl_OidOk x38.1).bind fun t45 =>
      some (!t45))).bind fun t47 =>
    (cond t47
      (some true)
      ((impl_ValOk x38.2).bind fun t51 =>
      some (!t51))).bind fun t53 =>
    cond t53 (some (.inr (.inr false))) (some (.inl (w64 (t35 + 1)))))
    (some (.inr (.inl ())))
noncomputable def impl_PduOk_l1_1 (p0 : Pdu) (t35_1 : Int) : Option (Int ⊕ (Unit ⊕ Bool)) :=
  cond (decide (t35_1 < (p0.2.2.2.2.length : Int)))
    ((at? p0.2.2.2.2 t35_1).bind fun x38_1 =>
    (cond (decide (t35_1 ≥ 10))
      (some true)
      ((impl_OidOk x38_1.1).bind fun t45_1 =>
      some (!t45_1))).bind fun t47_1 =>
    (cond t47_1
      (some true)
      ((impl_ValOk x38_1.2).bind fun t51_1 =>
      some (!t51_1))).bind fun t53_1 =>
    cond t53_1 (some (.inr (.inr false))) (some (.inl (w64 (t35_1 + 1)))))
    (some (.inr (.inl ())))
noncomputable def impl_PduOk_l1_2 (p0 : Pdu) (t35_2 : Int) : Option (Int ⊕ (Unit ⊕ Bool)) :=
  cond (decide (t35_2 < (p0.2.2.2.2.length : Int)))
    ((at? p0.2.2.2.2 t35_2).bind fun x38_2 =>
    (cond (decide (t35_2 ≥ 10))
      (some true)
      ((impl_OidOk x38_2.1).bind fun t45_2 =>
      some (!t45_2))).bind fun t47_2 =>
    (cond t47_2
      (some true)
      ((impl_ValOk x38_2.2).bind fun t51_2 =>
      some (!t51_2))).bind fun t53_2 =>
    cond t53_2 (some (.inr (.inr false))) (some (.inl (w64 (t35_2 + 1)))))
    (some (.inr (.inl ())))
noncomputable def impl_PduOk_l1_3 (p0 : Pdu) (t35_3 : Int) : Option (Int ⊕ (Unit ⊕ Bool)) :=
  cond (decide (t35_3 < (p0.2.2.2.2.length : Int)))
    ((at? p0.2.2.2.2 t35_3).bind fun x38_3 =>
    (cond (decide (t35_3 ≥ 10))
      (some true)
      ((impl_OidOk x38_3.1).bind fun t45_3 =>
      some (!t45_3))).bind fun t47_3 =>
    (cond t47_3
      (some true)
      ((impl_ValOk x38_3.2).bind fun t51_3 =>
      some (!t51_3))).bind fun t53_3 =>
    cond t53_3 (some (.inr (.inr false))) (some (.inl (w64 (t35_3 + 1)))))
    (some (.inr (.inl ())))
noncomputable def impl_PduOk_l1_4 (p0 : Pdu) (t35_4 : Int) : Option (Int ⊕ (Unit ⊕ Bool)) :=
  cond (decide (t35_4 < (p0.2.2.2.2.length : Int)))
    ((at? p0.2.2.2.2 t35_4).bind fun x38_4 =>
    (cond (decide (t35_4 ≥ 10))
      (some true)
      ((impl_OidOk x38_4.1).bind fun t45_4 =>
      some (!t45_4))).bind fun t47_4 =>
    (cond t47_4
      (some true)
      ((impl_ValOk x38_4.2).bind fun t51_4 =>
      some (!t51_4))).bind fun t53_4 =>
    cond t53_4 (some (.inr (.inr false))) (some (.inl (w64 (t35_4 + 1)))))
    (some (.inr (.inl ())))
noncomputable def impl_PduOk_l1_5 (p0 : Pdu) (t35_5 : Int) : Option (Int ⊕ (Unit ⊕ Bool)) :=
  cond (decide (t35_5 < (p0.2.2.2.2.length : Int)))
    ((at? p0.2.2.2.2 t35_5).bind fun x38_5 =>
    (cond (decide (t35_5 ≥ 10))
      (some true)
      ((impl_OidOk x38_5.1).bind fun t45_5 =>
      some (!t45_5))).bind fun t47_5 =>
    (cond t47_5
      (some true)
      ((impl_ValOk x38_5.2).bind fun t51_5 =>
      some (!t51_5))).bind fun t53_5 =>
    cond t53_5 (some (.inr (.inr false))) (some (.inl (w64 (t35_5 + 1)))))
    (some (.inr (.inl ())))
noncomputable def impl_PduOk_l1_6 (p0 : Pdu) (t35_6 : Int) : Option (Int ⊕ (Unit ⊕ Bool)) :=
  cond (decide (t35_6 < (p0.2.2.2.2.length : Int)))
    ((at? p0.2.2.2.2 t35_6).bind fun x38_6 =>
    (cond (decide (t35_6 ≥ 10))
      (some true)
      ((impl_OidOk x38_6.1).bind fun t45_6 =>
      some (!t45_6))).bind fun t47_6 =>
    (cond t47_6
      (some true)
      ((impl_ValOk x38_6.2).bind fun t51_6 =>
      some (!t51_6))).bind fun t53_6 =>
    cond t53_6 (some (.inr (.inr false))) (some (.inl (w64 (t35_6 + 1)))))
    (some (.inr (.inl ())))
noncomputable def impl_PduOk_l1_7 (p0 : Pdu) (t35_7 : Int) : Option (Int ⊕ (Unit ⊕ Bool)) :=
  cond (decide (t35_7 < (p0.2.2.2.2.length : Int)))
    ((at? p0.2.2.2.2 t35_7).bind fun x38_7 =>
    (cond (decide (t35_7 ≥ 10))
      (some true)
      ((impl_OidOk x38_7.1).bind fun t45_7 =>
      some (!t45_7))).bind fun t47_7 =>
    (cond t47_7
      (some true)
      ((impl_ValOk x38_7.2).bind fun t51_7 =>
      some (!t51_7))).bind fun t53_7 =>
    cond t53_7 (some (.inr (.inr false))) (some (.inl (w64 (t35_7 + 1)))))
    (some (.inr (.inl ())))
noncomputable def impl_PduOk_l1_8 (p0 : Pdu) (t35_8 : Int) : Option (Int ⊕ (Unit ⊕ Bool)) :=
  cond (decide (t35_8 < (p0.2.2.2.2.length : Int)))
    ((at? p0.2.2.2.2 t35_8).bind fun x38_8 =>
    (cond (decide (t35_8 ≥ 10))
      (some true)
      ((impl_OidOk x38_8.1).bind fun t45_8 =>
      some (!t45_8))).bind fun t47_8 =>
    (cond t47_8
      (some true)
      ((impl_ValOk x38_8.2).bind fun t51_8 =>
      some (!t51_8))).bind fun t53_8 =>
    cond t53_8 (some (.inr (.inr false))) (some (.inl (w64 (t35_8 + 1)))))
    (some (.inr (.inl ())))
noncomputable def impl_PduOk (p0 : Pdu) : Option Bool :=
  cond (p0.1 == 160)
    (cond (p0.1 == 160)
      ((cond (p0.2.2.1 != 0) (some true) (some (p0.2.2.2.1 != 0))).bind fun t18 =>
      cond t18
        (some false)
        ((loop (fun z => impl_PduOk_l1 p0 z) 0).bind (Sum.elim (fun d =>
          (impl_isInt p0.2.1).bind fun t57 =>
          some t57) (fun r => some r))))
      (cond (p0.1 == 162)
        (cond (p0.1 == 162)
          ((impl_in p0.2.2.1 0 1000).bind fun t24 =>
          (cond (!t24)
            (some true)
            ((impl_in p0.2.2.2.1 0 1000).bind fun t29 =>
            some (!t29))).bind fun t31 =>
          cond t31
            (some false)
            ((loop (fun z => impl_PduOk_l1_1 p0 z) 0).bind (Sum.elim (fun d_1 =>
              (impl_isInt p0.2.1).bind fun t57_1 =>
              some t57_1) (fun r_1 => some r_1))))
          (some false))
        (cond (p0.1 == 165)
          ((impl_in p0.2.2.1 0 1000).bind fun t24_1 =>
          (cond (!t24_1)
            (some true)
            ((impl_in p0.2.2.2.1 0 1000).bind fun t29_1 =>
            some (!t29_1))).bind fun t31_1 =>
          cond t31_1
            (some false)
            ((loop (fun z => impl_PduOk_l1_2 p0 z) 0).bind (Sum.elim (fun d_2 =>
              (impl_isInt p0.2.1).bind fun t57_2 =>
              some t57_2) (fun r_2 => some r_2))))
          (some false))))
    (cond (p0.1 == 161)
      (cond (p0.1 == 161)
        ((cond (p0.2.2.1 != 0) (some true) (some (p0.2.2.2.1 != 0))).bind fun t18_1 =>
        cond t18_1
          (some false)
          ((loop (fun z => impl_PduOk_l1_3 p0 z) 0).bind (Sum.elim (fun d_3 =>
            (impl_isInt p0.2.1).bind fun t57_3 =>
            some t57_3) (fun r_3 => some r_3))))
        (cond (p0.1 == 162)
          (cond (p0.1 == 162)
            ((impl_in p0.2.2.1 0 1000).bind fun t24_2 =>
            (cond (!t24_2)
              (some true)
              ((impl_in p0.2.2.2.1 0 1000).bind fun t29_2 =>
              some (!t29_2))).bind fun t31_2 =>
            cond t31_2
              (some false)
              ((loop (fun z => impl_PduOk_l1_4 p0 z) 0).bind (Sum.elim (fun d_4 =>
                (impl_isInt p0.2.1).bind fun t57_4 =>
                some t57_4) (fun r_4 => some r_4))))
            (some false))
          (cond (p0.1 == 165)
            ((impl_in p0.2.2.1 0 1000).bind fun t24_3 =>
            (cond (!t24_3)
              (some true)
              ((impl_in p0.2.2.2.1 0 1000).bind fun t29_3 =>
              some (!t29_3))).bind fun t31_3 =>
            cond t31_3
              (some false)
              ((loop (fun z => impl_PduOk_l1_5 p0 z) 0).bind (Sum.elim (fun d_5 =>
                (impl_isInt p0.2.1).bind fun t57_5 =>
                some t57_5) (fun r_5 => some r_5))))
            (some false))))
      (cond (p0.1 == 163)
        ((cond (p0.2.2.1 != 0) (some true) (some (p0.2.2.2.1 != 0))).bind fun t18_2 =>
        cond t18_2
          (some false)
          ((loop (fun z => impl_PduOk_l1_6 p0 z) 0).bind (Sum.elim (fun d_6 =>
            (impl_isInt p0.2.1).bind fun t57_6 =>
            some t57_6) (fun r_6 => some r_6))))
        (cond (p0.1 == 162)
          (cond (p0.1 == 162)
            ((impl_in p0.2.2.1 0 1000).bind fun t24_4 =>
            (cond (!t24_4)
              (some true)
              ((impl_in p0.2.2.2.1 0 1000).bind fun t29_4 =>
              some (!t29_4))).bind fun t31_4 =>
            cond t31_4
              (some false)
              ((loop (fun z => impl_PduOk_l1_7 p0 z) 0).bind (Sum.elim (fun d_7 =>
                (impl_isInt p0.2.1).bind fun t57_7 =>
                some t57_7) (fun r_7 => some r_7))))
            (some false))
          (cond (p0.1 == 165)
            ((impl_in p0.2.2.1 0 1000).bind fun t24_5 =>
            (cond (!t24_5)
              (some true)
              ((impl_in p0.2.2.2.1 0 1000).bind fun t29_5 =>
              some (!t29_5))).bind fun t31_5 =>
            cond t31_5
              (some false)
              ((loop (fun z => impl_PduOk_l1_8 p0 z) 0).bind (Sum.elim (fun d_8 =>
                (impl_isInt p0.2.1).bind fun t57_8 =>
                some t57_8) (fun r_8 => some r_8))))
            (some false)))))
noncomputable def F_impl_PduOk : Fn := ⟨[.val true cPdu false], [.val false (.one .bool) true], fun a => impl_PduOk a⟩
def a_impl_PduOk : List (Nat × LoopAnn) := [(1, ⟨⟨[(35, false, [.dat (.int .i64)]), (43, false, [.undef]), (44, false, [.undef]), (45, false, [.undef]), (46, false, [.undef]), (49, false, [.undef]), (50, false, [.undef]), (51, false, [.undef]), (52, false, [.undef])], []⟩,
    ⟨[], []⟩, some ⟨[(2, false, [.dat .bool])], []⟩⟩)]
theorem e_impl_PduOk : fnDen ⟨tis, fns_195, [], false⟩ a_impl_PduOk Tryz.f81 (codeOf Tryz.f81) [.val true cPdu false] [.val false (.one .bool) true] = fun a => impl_PduOk a := by kernel_rfl
theorem m_impl_PduOk : Meets Tryz.prog 81 F_impl_PduOk := by
  have h := meets_of (ann := a_impl_PduOk) (ps := [.val true cPdu false]) (rs := [.val false (.one .bool) true]) g_195 mixed Tryz.func81 (by kernel_rfl) (by kernel_rfl : Tryz.f81.body = some (codeOf Tryz.f81))
  rw [e_impl_PduOk] at h
  exact h
noncomputable def fns_81 : List (FuncId × Fn) := (81, F_impl_PduOk) :: fns_195
theorem g_81 : Good Tryz.prog ⟨tis, fns_81, [], false⟩ := g_195.cons m_impl_PduOk
noncomputable def impl_jobOk (j0 : Job) : Option Bool :=
  (impl_in j0.2.2.1 0 2).bind fun t5 =>
  (cond (!t5)
    (some true)
    ((impl_in j0.2.2.2.2.2.2.2.2.2.2.2.2.2.2.2.2.2.2.2.1 0 (j0.2.2.2.2.2.2.2.1.length : Int)).bind fun t14 =>
    some (!t14))).bind fun t16 =>
  (cond t16
    (some true)
    ((impl_in j0.2.2.2.2.2.2.2.2.2.2.2.2.2.2.2.2.2.2.2.2 0 3).bind fun t20 =>
    some (!t20))).bind fun t22 =>
  cond t22
    (some false)
    ((cond (j0.2.2.1 == 0)
      (some true)
      ((impl_PduOk (j0.2.2.2.1, j0.2.2.2.2.1, j0.2.2.2.2.2.1, j0.2.2.2.2.2.2.1, j0.2.2.2.2.2.2.2.1)).bind fun t29 =>
      (cond t29 (some (j0.2.2.2.1 != 162)) (some false)).bind fun t35 =>
      (cond t35
        ((impl_BridgeOk (j0.2.2.2.2.2.2.2.2.1, j0.2.2.2.2.2.2.2.2.2.1, j0.2.2.2.2.2.2.2.2.2.2.1, j0.2.2.2.2.2.2.2.2.2.2.2.1, j0.2.2.2.2.2.2.2.2.2.2.2.2.1, j0.2.2.2.2.2.2.2.2.2.2.2.2.2.1, j0.2.2.2.2.2.2.2.2.2.2.2.2.2.2.1, j0.2.2.2.2.2.2.2.2.2.2.2.2.2.2.2.1, j0.2.2.2.2.2.2.2.2.2.2.2.2.2.2.2.2.1, j0.2.2.2.2.2.2.2.2.2.2.2.2.2.2.2.2.2.1, j0.2.2.2.2.2.2.2.2.2.2.2.2.2.2.2.2.2.2.1)).bind fun t39 =>
        some t39)
        (some false)).bind fun t40 =>
      some t40)).bind fun t41 =>
    some t41)
noncomputable def F_impl_jobOk : Fn := ⟨[.val true cJob false], [.val false (.one .bool) true], fun a => impl_jobOk a⟩
def a_impl_jobOk : List (Nat × LoopAnn) := []
theorem e_impl_jobOk : fnDen ⟨tis, fns_81, [], false⟩ a_impl_jobOk Tryz.f233 (codeOf Tryz.f233) [.val true cJob false] [.val false (.one .bool) true] = fun a => impl_jobOk a := by kernel_rfl
theorem m_impl_jobOk : Meets Tryz.prog 233 F_impl_jobOk := by
  have h := meets_of (ann := a_impl_jobOk) (ps := [.val true cJob false]) (rs := [.val false (.one .bool) true]) g_81 mixed Tryz.func233 (by kernel_rfl) (by kernel_rfl : Tryz.f233.body = some (codeOf Tryz.f233))
  rw [e_impl_jobOk] at h
  exact h
noncomputable def fns_233 : List (FuncId × Fn) := (233, F_impl_jobOk) :: fns_81
theorem g_233 : Good Tryz.prog ⟨tis, fns_233, [], false⟩ := g_81.cons m_impl_jobOk
noncomputable def impl_AgentOk_l0 (p0 : Agent) (t36 : Int) : Option (Int ⊕ (Unit ⊕ Bool)) :=
  cond (decide (t36 < (p0.2.2.2.2.2.2.2.2.2.2.2.2.1.length : Int)))
    ((at? p0.2.2.2.2.2.2.2.2.2.2.2.2.1 t36).bind fun x39 =>
    (impl_in x39.1 1 p0.2.2.2.2.2.2.2.2.2.2.2.2.2.2).bind fun t45 =>
    (cond (!t45)
      (some true)
      ((cond (decide (t36 > 0))
        ((at? p0.2.2.2.2.2.2.2.2.2.2.2.2.1 (w64 (t36 - 1))).bind fun x55 =>
        some (decide (x55.1 ≥ x39.1)))
        (some false)).bind fun t61 =>
      some t61)).bind fun t62 =>
    (cond t62
      (some true)
      ((impl_jobOk x39).bind fun t65 =>
      some (!t65))).bind fun t67 =>
    cond t67 (some (.inr (.inr false))) (some (.inl (w64 (t36 + 1)))))
    (some (.inr (.inl ())))
noncomputable def impl_AgentOk (p0 : Agent) : Option Bool :=
  (impl_BridgeOk (p0.1, p0.2.1, p0.2.2.1, p0.2.2.2.1, p0.2.2.2.2.1, p0.2.2.2.2.2.1, p0.2.2.2.2.2.2.1, p0.2.2.2.2.2.2.2.1, p0.2.2.2.2.2.2.2.2.1, p0.2.2.2.2.2.2.2.2.2.1, p0.2.2.2.2.2.2.2.2.2.2.1)).bind fun t7 =>
  (cond (!t7)
    (some true)
    (some (decide ((p0.2.2.2.2.2.2.2.2.2.2.2.1.length : Int) > 20)))).bind fun t14 =>
  (cond t14
    (some true)
    (some (decide ((p0.2.2.2.2.2.2.2.2.2.2.2.2.1.length : Int) > 6)))).bind fun t20 =>
  (cond t20
    (some true)
    ((impl_isCount p0.2.2.2.2.2.2.2.2.2.2.2.2.2.1).bind fun t24 =>
    some (!t24))).bind fun t26 =>
  (cond t26
    (some true)
    ((impl_isCount p0.2.2.2.2.2.2.2.2.2.2.2.2.2.2).bind fun t30 =>
    some (!t30))).bind fun t32 =>
  cond t32
    (some false)
    ((loop (fun z => impl_AgentOk_l0 p0 z) 0).bind (Sum.elim (fun d =>
      some true) (fun r => some r)))
noncomputable def F_impl_AgentOk : Fn := ⟨[.val true cAgent false], [.val false (.one .bool) true], fun a => impl_AgentOk a⟩
def a_impl_AgentOk : List (Nat × LoopAnn) := [(0, ⟨⟨[(36, false, [.dat (.int .i64)]), (48, false, [.undef]), (49, false, [.undef]), (50, false, [.undef]), (51, false, [.undef]), (52, false, [.undef]), (53, false, [.undef]), (54, false, [.undef]), (55, false, [.undef]), (56, false, [.undef]), (57, false, [.undef]), (58, false, [.undef]), (59, false, [.undef]), (60, false, [.undef]), (61, false, [.undef]), (64, false, [.undef]), (65, false, [.undef]), (66, false, [.undef])], []⟩,
    ⟨[], []⟩, some ⟨[(2, false, [.dat .bool])], []⟩⟩)]
theorem e_impl_AgentOk : fnDen ⟨tis, fns_233, [], false⟩ a_impl_AgentOk Tryz.f109 (codeOf Tryz.f109) [.val true cAgent false] [.val false (.one .bool) true] = fun a => impl_AgentOk a := by kernel_rfl
theorem m_impl_AgentOk : Meets Tryz.prog 109 F_impl_AgentOk := by
  have h := meets_of (ann := a_impl_AgentOk) (ps := [.val true cAgent false]) (rs := [.val false (.one .bool) true]) g_233 mixed Tryz.func109 (by kernel_rfl) (by kernel_rfl : Tryz.f109.body = some (codeOf Tryz.f109))
  rw [e_impl_AgentOk] at h
  exact h
noncomputable def fns_109 : List (FuncId × Fn) := (109, F_impl_AgentOk) :: fns_233
theorem g_109 : Good Tryz.prog ⟨tis, fns_109, [], false⟩ := g_233.cons m_impl_AgentOk
noncomputable def impl_copyBytes (b0 : List Int) : Option (List Int) :=
  (app [] b0).bind fun zs4 =>
  some zs4
noncomputable def F_impl_copyBytes : Fn := ⟨[.val false (.one (.sl (.one (.int .u8)))) false], [.val false (.one (.sl (.one (.int .u8)))) true], fun a => impl_copyBytes a⟩
def a_impl_copyBytes : List (Nat × LoopAnn) := []
theorem e_impl_copyBytes : fnDen ⟨tis, fns_109, [], false⟩ a_impl_copyBytes Tryz.f111 (codeOf Tryz.f111) [.val false (.one (.sl (.one (.int .u8)))) false] [.val false (.one (.sl (.one (.int .u8)))) true] = fun a => impl_copyBytes a := by kernel_rfl
theorem m_impl_copyBytes : Meets Tryz.prog 111 F_impl_copyBytes := by
  have h := meets_of (ann := a_impl_copyBytes) (ps := [.val false (.one (.sl (.one (.int .u8)))) false]) (rs := [.val false (.one (.sl (.one (.int .u8)))) true]) g_109 mixed Tryz.func111 (by kernel_rfl) (by kernel_rfl : Tryz.f111.body = some (codeOf Tryz.f111))
  rw [e_impl_copyBytes] at h
  exact h
noncomputable def fns_111 : List (FuncId × Fn) := (111, F_impl_copyBytes) :: fns_109
theorem g_111 : Good Tryz.prog ⟨tis, fns_111, [], false⟩ := g_109.cons m_impl_copyBytes
noncomputable def impl_GetTlv (p0 : List Int) (i1 : Int) : Option (Int × (List Int) × Int × Bool) :=
  (cond (decide (i1 < 0)) (some true) (some (decide (i1 > (w64 ((p0.length : Int) - 2)))))).bind fun t18 =>
  cond t18
    (some (0, [], 0, false))
    ((at? p0 (w64 (i1 + 1))).bind fun x22 =>
    cond (decide ((w64 (x22)) ≥ 128))
      ((cond ((w64 (x22)) != 129) (some true) (some (decide ((w64 (i1 + 2)) ≥ (p0.length : Int))))).bind fun t36 =>
      (cond t36
        (some true)
        ((at? p0 (w64 (i1 + 2))).bind fun x40 =>
        some (decide (x40 < 128)))).bind fun t43 =>
      cond t43
        (some (0, [], 0, false))
        ((at? p0 (w64 (i1 + 2))).bind fun x46 =>
        (cond (decide ((w64 (x46)) > 250))
          (some true)
          (some (decide ((w64 (x46)) > (w64 ((p0.length : Int) - (w64 ((w64 (i1 + 2)) + 1)))))))).bind fun t60 =>
        cond t60
          (some (0, [], 0, false))
          ((at? p0 i1).bind fun x63 =>
          (cut p0 (w64 ((w64 (i1 + 2)) + 1)) (w64 ((w64 ((w64 (i1 + 2)) + 1)) + (w64 (x46))))).bind fun t71 =>
          (impl_copyBytes t71).bind fun t72 =>
          let t6 := w64 ((w64 ((w64 (i1 + 2)) + 1)) + (w64 (x46)))
          some (w64 (x63), t72, t6, true))))
      ((cond (decide ((w64 (x22)) > 250))
        (some true)
        (some (decide ((w64 (x22)) > (w64 ((p0.length : Int) - (w64 (i1 + 2)))))))).bind fun t60_1 =>
      cond t60_1
        (some (0, [], 0, false))
        ((at? p0 i1).bind fun x63_1 =>
        (cut p0 (w64 (i1 + 2)) (w64 ((w64 (i1 + 2)) + (w64 (x22))))).bind fun t71_1 =>
        (impl_copyBytes t71_1).bind fun t72_1 =>
        let t6_1 := w64 ((w64 (i1 + 2)) + (w64 (x22)))
        some (w64 (x63_1), t72_1, t6_1, true))))
noncomputable def F_impl_GetTlv : Fn := ⟨[.val false (.one (.sl (.one (.int .u8)))) false, .val false (.one (.int .i64)) false], [.val false (.one (.int .i64)) true, .val false (.one (.sl (.one (.int .u8)))) true, .val false (.one (.int .i64)) true, .val false (.one .bool) true], fun a => impl_GetTlv a.1 a.2⟩
def a_impl_GetTlv : List (Nat × LoopAnn) := []
theorem e_impl_GetTlv : fnDen ⟨tis, fns_111, [], false⟩ a_impl_GetTlv Tryz.f334 (codeOf Tryz.f334) [.val false (.one (.sl (.one (.int .u8)))) false, .val false (.one (.int .i64)) false] [.val false (.one (.int .i64)) true, .val false (.one (.sl (.one (.int .u8)))) true, .val false (.one (.int .i64)) true, .val false (.one .bool) true] = fun a => impl_GetTlv a.1 a.2 := by kernel_rfl
theorem m_impl_GetTlv : Meets Tryz.prog 334 F_impl_GetTlv := by
  have h := meets_of (ann := a_impl_GetTlv) (ps := [.val false (.one (.sl (.one (.int .u8)))) false, .val false (.one (.int .i64)) false]) (rs := [.val false (.one (.int .i64)) true, .val false (.one (.sl (.one (.int .u8)))) true, .val false (.one (.int .i64)) true, .val false (.one .bool) true]) g_111 mixed Tryz.func334 (by kernel_rfl) (by kernel_rfl : Tryz.f334.body = some (codeOf Tryz.f334))
  rw [e_impl_GetTlv] at h
  exact h
noncomputable def fns_334 : List (FuncId × Fn) := (334, F_impl_GetTlv) :: fns_111
theorem g_334 : Good Tryz.prog ⟨tis, fns_334, [], false⟩ := g_111.cons m_impl_GetTlv
noncomputable def impl_parts_part (r0 : L4Reader) (tag1 : Int) : Option (L4Reader × List Int) :=
  (impl_GetTlv r0.1 r0.2.1).bind fun t18 =>
  (cond r0.2.2 (some true) (some (!t18.2.2.2))).bind fun t30 =>
  (cond t30 (some true) (some (t18.1 != tag1))).bind fun t35 =>
  cond t35
    (some ((r0.1, r0.2.1, true), []))
    (some ((r0.1, t18.2.2.1, r0.2.2), t18.2.1))
noncomputable def F_impl_parts_part : Fn := ⟨[.ptr cL4Reader false, .val false (.one (.int .i64)) false], [.val false (.one (.sl (.one (.int .u8)))) true], fun a => impl_parts_part a.1 a.2⟩
def a_impl_parts_part : List (Nat × LoopAnn) := []
theorem e_impl_parts_part : fnDen ⟨tis, fns_334, [], false⟩ a_impl_parts_part Tryz.f336 (codeOf Tryz.f336) [.ptr cL4Reader false, .val false (.one (.int .i64)) false] [.val false (.one (.sl (.one (.int .u8)))) true] = fun a => impl_parts_part a.1 a.2 := by kernel_rfl
theorem m_impl_parts_part : Meets Tryz.prog 336 F_impl_parts_part := by
  have h := meets_of (ann := a_impl_parts_part) (ps := [.ptr cL4Reader false, .val false (.one (.int .i64)) false]) (rs := [.val false (.one (.sl (.one (.int .u8)))) true]) g_334 mixed Tryz.func336 (by kernel_rfl) (by kernel_rfl : Tryz.f336.body = some (codeOf Tryz.f336))
  rw [e_impl_parts_part] at h
  exact h
noncomputable def fns_336 : List (FuncId × Fn) := (336, F_impl_parts_part) :: fns_334
theorem g_336 : Good Tryz.prog ⟨tis, fns_336, [], false⟩ := g_334.cons m_impl_parts_part
noncomputable def impl_PutInt_l0 (n0_1 : Int) (k3 : Int) : Option (Int ⊕ Int) :=
  (cond (decide (k3 < 4))
    ((shl .i64 (-1) (w64 ((w64 (8 * k3)) - 1))).bind fun t16 =>
    (shl .i64 1 (w64 ((w64 (8 * k3)) - 1))).bind fun t20 =>
    (impl_in n0_1 t16 (w64 (t20 - 1))).bind fun t22 =>
    some (!t22))
    (some false)).bind fun t24 =>
  cond t24 (some (.inl (w64 (k3 + 1)))) (some (.inr k3))
noncomputable def impl_PutInt_l2 (n0_1 : Int) (i5 : Int) (out4 : List Int) : Option ((Int × List Int) ⊕ (List Int)) :=
  cond (decide (i5 ≥ 0))
    ((shr .i64 n0_1 (w64 (8 * i5))).bind fun t37 =>
    (app out4 [IntKind.u8.wrap (t37)]).bind fun zs40 =>
    some (.inl (w64 (i5 - 1), zs40)))
    (some (.inr out4))
noncomputable def impl_PutInt (n0 : Int) : Option (List Int) :=
  let n0_1 := max2 (-2147483648) (min2 n0 2147483647)
  (loop (fun z => impl_PutInt_l0 n0_1 z) 1).bind fun d =>
  (loop (fun z => impl_PutInt_l2 n0_1 z.1 z.2) (w64 (d - 1), [])).bind fun d_1 =>
  some d_1
noncomputable def F_impl_PutInt : Fn := ⟨[.val false (.one (.int .i64)) false], [.val false (.one (.sl (.one (.int .u8)))) true], fun a => impl_PutInt a⟩
def a_impl_PutInt : List (Nat × LoopAnn) := [(0, ⟨⟨[(3, false, [.dat (.int .i64)]), (12, false, [.undef]), (13, false, [.undef]), (14, false, [.undef]), (15, false, [.undef]), (16, false, [.undef]), (17, false, [.undef]), (18, false, [.undef]), (19, false, [.undef]), (20, false, [.undef]), (21, false, [.undef]), (22, false, [.undef]), (23, false, [.undef])], []⟩,
    ⟨[(3, false, [.dat (.int .i64)])], []⟩, none⟩),
  (2, ⟨⟨[(4, false, [.own 1000002000]), (5, false, [.dat (.int .i64)])], [(1000002000, .root (.one (.int .u8)) true)]⟩,
    ⟨[(4, false, [.own 1000002300])], [(1000002300, .root (.one (.int .u8)) true)]⟩, none⟩)]
theorem e_impl_PutInt : fnDen ⟨tis, fns_336, [], false⟩ a_impl_PutInt Tryz.f234 (codeOf Tryz.f234) [.val false (.one (.int .i64)) false] [.val false (.one (.sl (.one (.int .u8)))) true] = fun a => impl_PutInt a := by kernel_rfl
theorem m_impl_PutInt : Meets Tryz.prog 234 F_impl_PutInt := by
  have h := meets_of (ann := a_impl_PutInt) (ps := [.val false (.one (.int .i64)) false]) (rs := [.val false (.one (.sl (.one (.int .u8)))) true]) g_336 mixed Tryz.func234 (by kernel_rfl) (by kernel_rfl : Tryz.f234.body = some (codeOf Tryz.f234))
  rw [e_impl_PutInt] at h
  exact h
noncomputable def fns_234 : List (FuncId × Fn) := (234, F_impl_PutInt) :: fns_336
theorem g_234 : Good Tryz.prog ⟨tis, fns_234, [], false⟩ := g_336.cons m_impl_PutInt
noncomputable def impl_GetInt_l0 (t17 : List Int) (n4_1 : Int) (t19 : Int) : Option ((Int × Int) ⊕ Int) :=
  cond (decide (t19 < (t17.length : Int)))
    ((at? t17 t19).bind fun x21 =>
    let n4_2 := bor .i64 (w64 (n4_1 * 2 ^ 8)) (w64 (x21))
    some (.inl (n4_2, w64 (t19 + 1))))
    (some (.inr n4_1))
noncomputable def impl_GetInt (b0 : List Int) : Option (Int × Bool) :=
  (impl_in (b0.length : Int) 1 4).bind fun t9 =>
  cond (!t9)
    (some (0, false))
    ((at? b0 0).bind fun x12 =>
    let n4 := w64 (IntKind.i8.wrap (x12))
    (cut b0 1 (b0.length : Int)).bind fun t17 =>
    (loop (fun z => impl_GetInt_l0 t17 z.1 z.2) (n4, 0)).bind fun d =>
    (impl_PutInt d).bind fun t30 =>
    cond ((t30.length : Int) != (b0.length : Int)) (some (0, false)) (some (d, true)))
noncomputable def F_impl_GetInt : Fn := ⟨[.val false (.one (.sl (.one (.int .u8)))) false], [.val false (.one (.int .i64)) true, .val false (.one .bool) true], fun a => impl_GetInt a⟩
def a_impl_GetInt : List (Nat × LoopAnn) := [(0, ⟨⟨[(4, false, [.dat (.int .i64)]), (19, false, [.dat (.int .i64)])], []⟩,
    ⟨[(4, false, [.dat (.int .i64)])], []⟩, none⟩)]
theorem e_impl_GetInt : fnDen ⟨tis, fns_234, [], false⟩ a_impl_GetInt Tryz.f363 (codeOf Tryz.f363) [.val false (.one (.sl (.one (.int .u8)))) false] [.val false (.one (.int .i64)) true, .val false (.one .bool) true] = fun a => impl_GetInt a := by kernel_rfl
theorem m_impl_GetInt : Meets Tryz.prog 363 F_impl_GetInt := by
  have h := meets_of (ann := a_impl_GetInt) (ps := [.val false (.one (.sl (.one (.int .u8)))) false]) (rs := [.val false (.one (.int .i64)) true, .val false (.one .bool) true]) g_234 mixed Tryz.func363 (by kernel_rfl) (by kernel_rfl : Tryz.f363.body = some (codeOf Tryz.f363))
  rw [e_impl_GetInt] at h
  exact h
noncomputable def fns_363 : List (FuncId × Fn) := (363, F_impl_GetInt) :: fns_234
theorem g_363 : Good Tryz.prog ⟨tis, fns_363, [], false⟩ := g_234.cons m_impl_GetInt
noncomputable def impl_parts_num (r0 : L4Reader) (tag1 : Int) : Option (L4Reader × Int) :=
  (impl_parts_part r0 tag1).bind fun t10 =>
  (impl_GetInt t10.2).bind fun t11 =>
  (cond t10.1.2.2 (some true) (some (!t11.2))).bind fun t22 =>
  some ((t10.1.1, t10.1.2.1, t22), t11.1)
noncomputable def F_impl_parts_num : Fn := ⟨[.ptr cL4Reader false, .val false (.one (.int .i64)) false], [.val false (.one (.int .i64)) true], fun a => impl_parts_num a.1 a.2⟩
def a_impl_parts_num : List (Nat × LoopAnn) := []
theorem e_impl_parts_num : fnDen ⟨tis, fns_363, [], false⟩ a_impl_parts_num Tryz.f335 (codeOf Tryz.f335) [.ptr cL4Reader false, .val false (.one (.int .i64)) false] [.val false (.one (.int .i64)) true] = fun a => impl_parts_num a.1 a.2 := by kernel_rfl
theorem m_impl_parts_num : Meets Tryz.prog 335 F_impl_parts_num := by
  have h := meets_of (ann := a_impl_parts_num) (ps := [.ptr cL4Reader false, .val false (.one (.int .i64)) false]) (rs := [.val false (.one (.int .i64)) true]) g_363 mixed Tryz.func335 (by kernel_rfl) (by kernel_rfl : Tryz.f335.body = some (codeOf Tryz.f335))
  rw [e_impl_parts_num] at h
  exact h
noncomputable def fns_335 : List (FuncId × Fn) := (335, F_impl_parts_num) :: fns_363
theorem g_335 : Good Tryz.prog ⟨tis, fns_335, [], false⟩ := g_363.cons m_impl_parts_num
noncomputable def impl_tlv (tag0 : Int) (body1 : List Int) : Option ((List Int) × Bool) :=
  (impl_in tag0 0 255).bind fun t8 =>
  (cond (!t8) (some true) (some (decide ((body1.length : Int) > 250)))).bind fun t14 =>
  cond t14
    (some ([], false))
    (cond (decide ((body1.length : Int) ≥ 128))
      ((app [IntKind.u8.wrap (tag0)] ([129] : List Int)).bind fun zs23 =>
      (app zs23 [IntKind.u8.wrap ((body1.length : Int))]).bind fun zs29 =>
      (app zs29 body1).bind fun zs31 =>
      some (zs31, true))
      ((app [IntKind.u8.wrap (tag0)] [IntKind.u8.wrap ((body1.length : Int))]).bind fun zs29_1 =>
      (app zs29_1 body1).bind fun zs31_1 =>
      some (zs31_1, true)))
noncomputable def F_impl_tlv : Fn := ⟨[.val false (.one (.int .i64)) false, .val false (.one (.sl (.one (.int .u8)))) false], [.val false (.one (.sl (.one (.int .u8)))) true, .val false (.one .bool) true], fun a => impl_tlv a.1 a.2⟩
def a_impl_tlv : List (Nat × LoopAnn) := []
theorem e_impl_tlv : fnDen ⟨tis, fns_335, [], false⟩ a_impl_tlv Tryz.f112 (codeOf Tryz.f112) [.val false (.one (.int .i64)) false, .val false (.one (.sl (.one (.int .u8)))) false] [.val false (.one (.sl (.one (.int .u8)))) true, .val false (.one .bool) true] = fun a => impl_tlv a.1 a.2 := by kernel_rfl
theorem m_impl_tlv : Meets Tryz.prog 112 F_impl_tlv := by
  have h := meets_of (ann := a_impl_tlv) (ps := [.val false (.one (.int .i64)) false, .val false (.one (.sl (.one (.int .u8)))) false]) (rs := [.val false (.one (.sl (.one (.int .u8)))) true, .val false (.one .bool) true]) g_335 mixed Tryz.func112 (by kernel_rfl) (by kernel_rfl : Tryz.f112.body = some (codeOf Tryz.f112))
  rw [e_impl_tlv] at h
  exact h
noncomputable def fns_112 : List (FuncId × Fn) := (112, F_impl_tlv) :: fns_335
theorem g_112 : Good Tryz.prog ⟨tis, fns_112, [], false⟩ := g_335.cons m_impl_tlv
noncomputable def impl_PutTlv (b0 : List Int) (tag1 : Int) (body2 : List Int) : Option (List Int) :=
  (impl_tlv tag1 body2).bind fun t12 =>
  (impl_copyBytes b0).bind fun t16 =>
  (app t16 t12.1).bind fun zs18 =>
  some zs18
noncomputable def F_impl_PutTlv : Fn := ⟨[.val false (.one (.sl (.one (.int .u8)))) false, .val false (.one (.int .i64)) false, .val false (.one (.sl (.one (.int .u8)))) false], [.val false (.one (.sl (.one (.int .u8)))) true], fun a => impl_PutTlv a.1 a.2.1 a.2.2⟩
def a_impl_PutTlv : List (Nat × LoopAnn) := []
theorem e_impl_PutTlv : fnDen ⟨tis, fns_112, [], false⟩ a_impl_PutTlv Tryz.f113 (codeOf Tryz.f113) [.val false (.one (.sl (.one (.int .u8)))) false, .val false (.one (.int .i64)) false, .val false (.one (.sl (.one (.int .u8)))) false] [.val false (.one (.sl (.one (.int .u8)))) true] = fun a => impl_PutTlv a.1 a.2.1 a.2.2 := by kernel_rfl
theorem m_impl_PutTlv : Meets Tryz.prog 113 F_impl_PutTlv := by
  have h := meets_of (ann := a_impl_PutTlv) (ps := [.val false (.one (.sl (.one (.int .u8)))) false, .val false (.one (.int .i64)) false, .val false (.one (.sl (.one (.int .u8)))) false]) (rs := [.val false (.one (.sl (.one (.int .u8)))) true]) g_112 mixed Tryz.func113 (by kernel_rfl) (by kernel_rfl : Tryz.f113.body = some (codeOf Tryz.f113))
  rw [e_impl_PutTlv] at h
  exact h
noncomputable def fns_113 : List (FuncId × Fn) := (113, F_impl_PutTlv) :: fns_112
theorem g_113 : Good Tryz.prog ⟨tis, fns_113, [], false⟩ := g_112.cons m_impl_PutTlv
noncomputable def impl_addNum (out0 : List Int) (tag1 : Int) (n2 : Int) : Option (List Int) :=
  (impl_PutInt n2).bind fun t10 =>
  (impl_PutTlv out0 tag1 t10).bind fun t11 =>
  some t11
noncomputable def F_impl_addNum : Fn := ⟨[.val false (.one (.sl (.one (.int .u8)))) false, .val false (.one (.int .i64)) false, .val false (.one (.int .i64)) false], [.val false (.one (.sl (.one (.int .u8)))) true], fun a => impl_addNum a.1 a.2.1 a.2.2⟩
def a_impl_addNum : List (Nat × LoopAnn) := []
theorem e_impl_addNum : fnDen ⟨tis, fns_113, [], false⟩ a_impl_addNum Tryz.f114 (codeOf Tryz.f114) [.val false (.one (.sl (.one (.int .u8)))) false, .val false (.one (.int .i64)) false, .val false (.one (.int .i64)) false] [.val false (.one (.sl (.one (.int .u8)))) true] = fun a => impl_addNum a.1 a.2.1 a.2.2 := by kernel_rfl
theorem m_impl_addNum : Meets Tryz.prog 114 F_impl_addNum := by
  have h := meets_of (ann := a_impl_addNum) (ps := [.val false (.one (.sl (.one (.int .u8)))) false, .val false (.one (.int .i64)) false, .val false (.one (.int .i64)) false]) (rs := [.val false (.one (.sl (.one (.int .u8)))) true]) g_113 mixed Tryz.func114 (by kernel_rfl) (by kernel_rfl : Tryz.f114.body = some (codeOf Tryz.f114))
  rw [e_impl_addNum] at h
  exact h
noncomputable def fns_114 : List (FuncId × Fn) := (114, F_impl_addNum) :: fns_113
theorem g_114 : Good Tryz.prog ⟨tis, fns_114, [], false⟩ := g_113.cons m_impl_addNum
noncomputable def impl_PutOid_l2 (x14 : Int) (k6 : Int) : Option (Int ⊕ Int) :=
  (shr .i64 x14 (w64 (7 * k6))).bind fun t19 =>
  cond (decide (t19 > 127)) (some (.inl (w64 (k6 + 1)))) (some (.inr k6))
noncomputable def impl_PutOid_l4 (x14 : Int) (k6_2 : Int) (out3_1 : List Int) : Option ((Int × List Int) ⊕ (List Int)) :=
  cond (decide (k6_2 > 0))
    ((shr .i64 x14 (w64 (7 * k6_2))).bind fun t31 =>
    (app out3_1 [IntKind.u8.wrap (w64 ((band .i64 t31 127) + 128))]).bind fun zs36 =>
    some (.inl (w64 (k6_2 - 1), zs36)))
    (some (.inr out3_1))
noncomputable def impl_PutOid_l0 (o0 : List Int) (t12 : Int) (out3 : List Int) : Option ((Int × List Int) ⊕ (List Int)) :=
  cond (decide (t12 < (o0.length : Int)))
    ((at? o0 t12).bind fun x14 =>
    (loop (fun z => impl_PutOid_l2 x14 z) 0).bind fun d =>
    (loop (fun z => impl_PutOid_l4 x14 z.1 z.2) (d, out3)).bind fun d_1 =>
    (app d_1 [IntKind.u8.wrap (band .i64 x14 127)]).bind fun zs42 =>
    some (.inl (w64 (t12 + 1), zs42)))
    (some (.inr out3))
noncomputable def impl_PutOid (o0 : List Int) : Option (List Int) :=
  (impl_OidOk o0).bind fun t8 =>
  cond (!t8)
    (some [])
    ((loop (fun z => impl_PutOid_l0 o0 z.1 z.2) (0, [])).bind fun d_2 =>
    some d_2)
noncomputable def F_impl_PutOid : Fn := ⟨[.val false (.one (.sl (.one (.int .i64)))) false], [.val false (.one (.sl (.one (.int .u8)))) true], fun a => impl_PutOid a⟩
def a_impl_PutOid : List (Nat × LoopAnn) := [(0, ⟨⟨[(3, false, [.own 1000000000]), (12, false, [.dat (.int .i64)])], [(1000000000, .root (.one (.int .u8)) true)]⟩,
    ⟨[(3, false, [.own 1000000300])], [(1000000300, .root (.one (.int .u8)) true)]⟩, none⟩),
  (2, ⟨⟨[(6, false, [.dat (.int .i64)])], []⟩,
    ⟨[(6, false, [.dat (.int .i64)])], []⟩, none⟩),
  (4, ⟨⟨[(3, false, [.own 1000004000]), (6, false, [.dat (.int .i64)])], [(1000004000, .root (.one (.int .u8)) true)]⟩,
    ⟨[(3, false, [.own 1000004300])], [(1000004300, .root (.one (.int .u8)) true)]⟩, none⟩)]
theorem e_impl_PutOid : fnDen ⟨tis, fns_114, [], false⟩ a_impl_PutOid Tryz.f202 (codeOf Tryz.f202) [.val false (.one (.sl (.one (.int .i64)))) false] [.val false (.one (.sl (.one (.int .u8)))) true] = fun a => impl_PutOid a := by kernel_rfl
theorem m_impl_PutOid : Meets Tryz.prog 202 F_impl_PutOid := by
  have h := meets_of (ann := a_impl_PutOid) (ps := [.val false (.one (.sl (.one (.int .i64)))) false]) (rs := [.val false (.one (.sl (.one (.int .u8)))) true]) g_114 mixed Tryz.func202 (by kernel_rfl) (by kernel_rfl : Tryz.f202.body = some (codeOf Tryz.f202))
  rw [e_impl_PutOid] at h
  exact h
noncomputable def fns_202 : List (FuncId × Fn) := (202, F_impl_PutOid) :: fns_114
theorem g_202 : Good Tryz.prog ⟨tis, fns_202, [], false⟩ := g_114.cons m_impl_PutOid
noncomputable def impl_PutVal (b0 : List Int) (v1 : Val) : Option (List Int) :=
  (impl_ValOk v1).bind fun t7 =>
  cond (!t7)
    ((impl_copyBytes b0).bind fun t10 =>
    some t10)
    (cond (v1.1 == 2)
      ((impl_PutInt v1.2.1).bind fun t17 =>
      (impl_PutTlv b0 v1.1 t17).bind fun t32 =>
      some t32)
      (cond (v1.1 == 4)
        ((impl_PutTlv b0 v1.1 (intsOf v1.2.2.1)).bind fun t32_1 =>
        some t32_1)
        (cond (v1.1 == 6)
          ((impl_PutOid v1.2.2.2).bind fun t27 =>
          (impl_PutTlv b0 v1.1 t27).bind fun t32_2 =>
          some t32_2)
          ((impl_PutTlv b0 v1.1 []).bind fun t32_3 =>
          some t32_3))))
noncomputable def F_impl_PutVal : Fn := ⟨[.val false (.one (.sl (.one (.int .u8)))) false, .val true cVal false], [.val false (.one (.sl (.one (.int .u8)))) true], fun a => impl_PutVal a.1 a.2⟩
def a_impl_PutVal : List (Nat × LoopAnn) := []
theorem e_impl_PutVal : fnDen ⟨tis, fns_202, [], false⟩ a_impl_PutVal Tryz.f201 (codeOf Tryz.f201) [.val false (.one (.sl (.one (.int .u8)))) false, .val true cVal false] [.val false (.one (.sl (.one (.int .u8)))) true] = fun a => impl_PutVal a.1 a.2 := by kernel_rfl
theorem m_impl_PutVal : Meets Tryz.prog 201 F_impl_PutVal := by
  have h := meets_of (ann := a_impl_PutVal) (ps := [.val false (.one (.sl (.one (.int .u8)))) false, .val true cVal false]) (rs := [.val false (.one (.sl (.one (.int .u8)))) true]) g_202 mixed Tryz.func201 (by kernel_rfl) (by kernel_rfl : Tryz.f201.body = some (codeOf Tryz.f201))
  rw [e_impl_PutVal] at h
  exact h
noncomputable def fns_201 : List (FuncId × Fn) := (201, F_impl_PutVal) :: fns_202
theorem g_201 : Good Tryz.prog ⟨tis, fns_201, [], false⟩ := g_202.cons m_impl_PutVal
noncomputable def impl_PutPdu_l0 (p0 : Pdu) (t18 : Int) (t3 : List Int) : Option ((Int × List Int) ⊕ ((List Int) ⊕ (List Int))) :=
  cond (decide (t18 < (p0.2.2.2.2.length : Int)))
    ((at? p0.2.2.2.2 t18).bind fun x20 =>
    (impl_PutOid x20.1).bind fun t25 =>
    (impl_PutTlv [] 6 t25).bind fun t26 =>
    (impl_PutVal t26 x20.2).bind fun t29 =>
    (impl_tlv 48 t29).bind fun t30 =>
    cond (!t30.2)
      (some (.inr (.inr [])))
      ((app t3 t30.1).bind fun zs37 =>
      some (.inl (w64 (t18 + 1), zs37))))
    (some (.inr (.inl t3)))
noncomputable def impl_PutPdu (p0 : Pdu) : Option (List Int) :=
  (impl_PduOk p0).bind fun t13 =>
  cond (!t13)
    (some [])
    ((loop (fun z => impl_PutPdu_l0 p0 z.1 z.2) (0, [])).bind (Sum.elim (fun d =>
      (impl_tlv 48 d).bind fun t41 =>
      cond (!t41.2)
        (some [])
        ((impl_addNum [] 2 p0.2.1).bind fun t51 =>
        (impl_addNum t51 2 p0.2.2.1).bind fun t54 =>
        (impl_addNum t54 2 p0.2.2.2.1).bind fun t57 =>
        (app t57 t41.1).bind fun zs59 =>
        (impl_tlv p0.1 zs59).bind fun t60 =>
        cond (!t60.2) (some []) (some t60.1))) (fun r => some r)))
noncomputable def F_impl_PutPdu : Fn := ⟨[.val true cPdu false], [.val false (.one (.sl (.one (.int .u8)))) true], fun a => impl_PutPdu a⟩
def a_impl_PutPdu : List (Nat × LoopAnn) := [(0, ⟨⟨[(3, false, [.own 1000000000]), (18, false, [.dat (.int .i64)])], [(1000000000, .root (.one (.int .u8)) true)]⟩,
    ⟨[(3, false, [.own 1000000300])], [(1000000300, .root (.one (.int .u8)) true)]⟩, some ⟨[(2, false, [.own 1000000600])], [(1000000600, .root (.one (.int .u8)) true)]⟩⟩)]
theorem e_impl_PutPdu : fnDen ⟨tis, fns_201, [], false⟩ a_impl_PutPdu Tryz.f88 (codeOf Tryz.f88) [.val true cPdu false] [.val false (.one (.sl (.one (.int .u8)))) true] = fun a => impl_PutPdu a := by kernel_rfl
theorem m_impl_PutPdu : Meets Tryz.prog 88 F_impl_PutPdu := by
  have h := meets_of (ann := a_impl_PutPdu) (ps := [.val true cPdu false]) (rs := [.val false (.one (.sl (.one (.int .u8)))) true]) g_201 mixed Tryz.func88 (by kernel_rfl) (by kernel_rfl : Tryz.f88.body = some (codeOf Tryz.f88))
  rw [e_impl_PutPdu] at h
  exact h
noncomputable def fns_88 : List (FuncId × Fn) := (88, F_impl_PutPdu) :: fns_201
theorem g_88 : Good Tryz.prog ⟨tis, fns_88, [], false⟩ := g_201.cons m_impl_PutPdu
noncomputable def impl_parts_done (r0 : L4Reader) : Option (L4Reader × Bool) :=
  (cond (!r0.2.2) (some (r0.2.1 == (r0.1.length : Int))) (some false)).bind fun t19 =>
  some (r0, t19)
noncomputable def F_impl_parts_done : Fn := ⟨[.ptr cL4Reader false], [.val false (.one .bool) true], fun a => impl_parts_done a⟩
def a_impl_parts_done : List (Nat × LoopAnn) := []
theorem e_impl_parts_done : fnDen ⟨tis, fns_88, [], false⟩ a_impl_parts_done Tryz.f364 (codeOf Tryz.f364) [.ptr cL4Reader false] [.val false (.one .bool) true] = fun a => impl_parts_done a := by kernel_rfl
theorem m_impl_parts_done : Meets Tryz.prog 364 F_impl_parts_done := by
  have h := meets_of (ann := a_impl_parts_done) (ps := [.ptr cL4Reader false]) (rs := [.val false (.one .bool) true]) g_88 mixed Tryz.func364 (by kernel_rfl) (by kernel_rfl : Tryz.f364.body = some (codeOf Tryz.f364))
  rw [e_impl_parts_done] at h
  exact h
noncomputable def fns_364 : List (FuncId × Fn) := (364, F_impl_parts_done) :: fns_88
theorem g_364 : Good Tryz.prog ⟨tis, fns_364, [], false⟩ := g_88.cons m_impl_parts_done
noncomputable def impl_GetOid_l0 (b0 : List Int) (n5 : Int) (t11 : Int) (out4 : List Int) : Option ((Int × Int × List Int) ⊕ ((List Int) ⊕ (Bool × List Int))) :=
  cond (decide (t11 < (b0.length : Int)))
    ((at? b0 t11).bind fun x14 =>
    cond (decide (t11 ≥ 40))
      (some (.inr (.inr (false, []))))
      (let n5_1 := bor .i64 (w64 ((min2 n5 1048576) * 2 ^ 7)) (w64 (band .u8 x14 127))
      cond (decide (x14 < 128))
        ((app out4 [n5_1]).bind fun zs30 =>
        some (.inl (0, w64 (t11 + 1), zs30)))
        (some (.inl (n5_1, w64 (t11 + 1), out4)))))
    (some (.inr (.inl out4)))
noncomputable def impl_GetOid (b0 : List Int) : Option ((List Int) × Bool) :=
  (loop (fun z => impl_GetOid_l0 b0 z.1 z.2.1 z.2.2) (0, 0, [])).bind (Sum.elim (fun d =>
    (impl_PutOid d).bind fun t33 =>
    (cond ((t33.length : Int) == 0) (some true) (some (!((bytesOf t33) == (bytesOf b0))))).bind fun t43 =>
    cond t43 (some ([], false)) (some (d, true))) (fun r => some (r.2, r.1)))
noncomputable def F_impl_GetOid : Fn := ⟨[.val false (.one (.sl (.one (.int .u8)))) false], [.val false (.one (.sl (.one (.int .i64)))) true, .val false (.one .bool) true], fun a => impl_GetOid a⟩
def a_impl_GetOid : List (Nat × LoopAnn) := [(0, ⟨⟨[(4, false, [.own 1000000000]), (5, false, [.dat (.int .i64)]), (11, false, [.dat (.int .i64)])], [(1000000000, .root (.one (.int .i64)) true)]⟩,
    ⟨[(4, false, [.own 1000000300])], [(1000000300, .root (.one (.int .i64)) true)]⟩, some ⟨[(2, false, [.own 1000000600]), (3, false, [.dat .bool])], [(1000000600, .root (.one (.int .i64)) true)]⟩⟩)]
theorem e_impl_GetOid : fnDen ⟨tis, fns_364, [], false⟩ a_impl_GetOid Tryz.f373 (codeOf Tryz.f373) [.val false (.one (.sl (.one (.int .u8)))) false] [.val false (.one (.sl (.one (.int .i64)))) true, .val false (.one .bool) true] = fun a => impl_GetOid a := by kernel_rfl
theorem m_impl_GetOid : Meets Tryz.prog 373 F_impl_GetOid := by
  have h := meets_of (ann := a_impl_GetOid) (ps := [.val false (.one (.sl (.one (.int .u8)))) false]) (rs := [.val false (.one (.sl (.one (.int .i64)))) true, .val false (.one .bool) true]) g_364 mixed Tryz.func373 (by kernel_rfl) (by kernel_rfl : Tryz.f373.body = some (codeOf Tryz.f373))
  rw [e_impl_GetOid] at h
  exact h
noncomputable def fns_373 : List (FuncId × Fn) := (373, F_impl_GetOid) :: fns_364
theorem g_373 : Good Tryz.prog ⟨tis, fns_373, [], false⟩ := g_364.cons m_impl_GetOid
noncomputable def impl_GetVal (b0 : List Int) (at1 : Int) : Option (Val × Int × Bool) :=
  (impl_GetTlv b0 at1).bind fun t15 =>
  cond (!t15.2.2.2)
    (some ((0, 0, [], []), 0, false))
    (cond (t15.1 == 2)
      ((impl_GetInt t15.2.1).bind fun t33 =>
      (cond (!t33.2)
        (some true)
        ((impl_ValOk (t15.1, t33.1, [], [])).bind fun t54 =>
        some (!t54))).bind fun t56 =>
      cond t56
        (some ((0, 0, [], []), 0, false))
        (some ((t15.1, t33.1, [], []), t15.2.2.1, true)))
      (cond (t15.1 == 4)
        ((cond (!t15.2.2.2)
          (some true)
          ((impl_ValOk (t15.1, 0, bytesOf t15.2.1, [])).bind fun t54_1 =>
          some (!t54_1))).bind fun t56_1 =>
        cond t56_1
          (some ((0, 0, [], []), 0, false))
          (some ((t15.1, 0, bytesOf t15.2.1, []), t15.2.2.1, true)))
        (cond (t15.1 == 6)
          ((impl_GetOid t15.2.1).bind fun t46 =>
          (cond (!t46.2)
            (some true)
            ((impl_ValOk (t15.1, 0, [], t46.1)).bind fun t54_2 =>
            some (!t54_2))).bind fun t56_2 =>
          cond t56_2
            (some ((0, 0, [], []), 0, false))
            (some ((t15.1, 0, [], t46.1), t15.2.2.1, true)))
          (let ok10 := (t15.2.1.length : Int) == 0
          (cond (!ok10)
            (some true)
            ((impl_ValOk (t15.1, 0, [], [])).bind fun t54_3 =>
            some (!t54_3))).bind fun t56_3 =>
          cond t56_3
            (some ((0, 0, [], []), 0, false))
            (some ((t15.1, 0, [], []), t15.2.2.1, true))))))
noncomputable def F_impl_GetVal : Fn := ⟨[.val false (.one (.sl (.one (.int .u8)))) false, .val false (.one (.int .i64)) false], [.val true cVal true, .val false (.one (.int .i64)) true, .val false (.one .bool) true], fun a => impl_GetVal a.1 a.2⟩
def a_impl_GetVal : List (Nat × LoopAnn) := []
theorem e_impl_GetVal : fnDen ⟨tis, fns_373, [], false⟩ a_impl_GetVal Tryz.f374 (codeOf Tryz.f374) [.val false (.one (.sl (.one (.int .u8)))) false, .val false (.one (.int .i64)) false] [.val true cVal true, .val false (.one (.int .i64)) true, .val false (.one .bool) true] = fun a => impl_GetVal a.1 a.2 := by kernel_rfl
theorem m_impl_GetVal : Meets Tryz.prog 374 F_impl_GetVal := by
  have h := meets_of (ann := a_impl_GetVal) (ps := [.val false (.one (.sl (.one (.int .u8)))) false, .val false (.one (.int .i64)) false]) (rs := [.val true cVal true, .val false (.one (.int .i64)) true, .val false (.one .bool) true]) g_373 mixed Tryz.func374 (by kernel_rfl) (by kernel_rfl : Tryz.f374.body = some (codeOf Tryz.f374))
  rw [e_impl_GetVal] at h
  exact h
noncomputable def fns_374 : List (FuncId × Fn) := (374, F_impl_GetVal) :: fns_373
theorem g_374 : Good Tryz.prog ⟨tis, fns_374, [], false⟩ := g_373.cons m_impl_GetVal
noncomputable def impl_bindOf (b0 : List Int) : Option (Bind × Bool) :=
  (impl_parts_part (b0, 0, false) 6).bind fun t15 =>
  (impl_GetOid t15.2).bind fun t16 =>
  (impl_GetVal b0 t15.1.2.1).bind fun t25 =>
  (cond t15.1.2.2 (some true) (some (!t16.2))).bind fun t36 =>
  (cond t36 (some true) (some (!t25.2.2))).bind fun t40 =>
  (cond t40 (some true) (some (t25.2.1 != (b0.length : Int)))).bind fun t46 =>
  cond t46
    (some (([], 0, 0, [], []), false))
    (some ((t16.1, t25.1.1, t25.1.2.1, t25.1.2.2.1, t25.1.2.2.2), true))
noncomputable def F_impl_bindOf : Fn := ⟨[.val false (.one (.sl (.one (.int .u8)))) false], [.val true cBind true, .val false (.one .bool) true], fun a => impl_bindOf a⟩
def a_impl_bindOf : List (Nat × LoopAnn) := []
theorem e_impl_bindOf : fnDen ⟨tis, fns_374, [], false⟩ a_impl_bindOf Tryz.f365 (codeOf Tryz.f365) [.val false (.one (.sl (.one (.int .u8)))) false] [.val true cBind true, .val false (.one .bool) true] = fun a => impl_bindOf a := by kernel_rfl
theorem m_impl_bindOf : Meets Tryz.prog 365 F_impl_bindOf := by
  have h := meets_of (ann := a_impl_bindOf) (ps := [.val false (.one (.sl (.one (.int .u8)))) false]) (rs := [.val true cBind true, .val false (.one .bool) true]) g_374 mixed Tryz.func365 (by kernel_rfl) (by kernel_rfl : Tryz.f365.body = some (codeOf Tryz.f365))
  rw [e_impl_bindOf] at h
  exact h
noncomputable def fns_365 : List (FuncId × Fn) := (365, F_impl_bindOf) :: fns_374
theorem g_365 : Good Tryz.prog ⟨tis, fns_365, [], false⟩ := g_374.cons m_impl_bindOf
noncomputable def impl_GetPdu_l0 (b0 : Int) (b1 : Int) (b2 : Int) (b3 : Int) (b0_1 : Int) (b1_1 : Int) (b2_1 : Int) (b3_1 : Int) (b0_2 : List Int) (b1_2 : Int) (b2_2 : Bool) (b4 : List Bind) (b4_1 : List Bind) : Option ((Int × Int × Int × Int × Int × Int × Int × Int × List Int × Int × Bool × List Bind × List Bind) ⊕ ((Int × Int × Int × Int × Int × Int × Int × Int × List Int × Int × Bool × List Bind × List Bind) ⊕ (Bool × Int × Int × Int × Int × List Bind))) :=
  cond (decide (b1_2 < (b0_2.length : Int)))
    ((impl_parts_part (b0_2, b1_2, b2_2) 48).bind fun t64 =>
    (impl_bindOf t64.2).bind fun t65 =>
    (cond (!t65.2) (some true) (some (decide ((b4_1.length : Int) ≥ 10)))).bind fun t75 =>
    cond t75
      (some (.inr (.inr (false, 0, 0, 0, 0, []))))
      ((app b4_1 [t65.1]).bind fun zs81 =>
      some (.inl (b0, b1, b2, b3, b0_1, b1_1, b2_1, b3_1, t64.1.1, t64.1.2.1, t64.1.2.2, b4, zs81))))
    (some (.inr (.inl (b0, b1, b2, b3, b0_1, b1_1, b2_1, b3_1, b0_2, b1_2, b2_2, b4, b4_1))))
noncomputable def impl_GetPdu (p0 : List Int) : Option (Pdu × Bool) :=
  (impl_GetTlv p0 0).bind fun t16 =>
  (cond (!t16.2.2.2) (some true) (some (t16.2.2.1 != (p0.length : Int)))).bind fun t28 =>
  cond t28
    (some ((0, 0, 0, 0, []), false))
    ((impl_parts_num (t16.2.1, 0, false) 2).bind fun t36 =>
    (impl_parts_num t36.1 2).bind fun t39 =>
    (impl_parts_num t39.1 2).bind fun t42 =>
    (impl_parts_part t42.1 48).bind fun t45 =>
    (impl_parts_done t45.1).bind fun t49 =>
    cond (!t49.2)
      (some ((0, 0, 0, 0, []), false))
      ((loop (fun z => impl_GetPdu_l0 z.1 z.2.1 z.2.2.1 z.2.2.2.1 z.2.2.2.2.1 z.2.2.2.2.2.1 z.2.2.2.2.2.2.1 z.2.2.2.2.2.2.2.1 z.2.2.2.2.2.2.2.2.1 z.2.2.2.2.2.2.2.2.2.1 z.2.2.2.2.2.2.2.2.2.2.1 z.2.2.2.2.2.2.2.2.2.2.2.1 z.2.2.2.2.2.2.2.2.2.2.2.2) (0, 0, 0, 0, t16.1, t36.2, t39.2, t42.2, t45.2, 0, false, [], [])).bind (Sum.elim (fun d =>
        (impl_PutPdu (d.2.2.2.2.1, d.2.2.2.2.2.1, d.2.2.2.2.2.2.1, d.2.2.2.2.2.2.2.1, d.2.2.2.2.2.2.2.2.2.2.2.2)).bind fun t84 =>
        (cond ((t84.length : Int) == 0) (some true) (some (!((bytesOf t84) == (bytesOf p0))))).bind fun t94 =>
        cond t94
          (some ((0, 0, 0, 0, []), false))
          (some ((d.2.2.2.2.1, d.2.2.2.2.2.1, d.2.2.2.2.2.2.1, d.2.2.2.2.2.2.2.1, d.2.2.2.2.2.2.2.2.2.2.2.2), true))) (fun r => some (r.2, r.1)))))
noncomputable def F_impl_GetPdu : Fn := ⟨[.val false (.one (.sl (.one (.int .u8)))) false], [.val true cPdu true, .val false (.one .bool) true], fun a => impl_GetPdu a⟩
def a_impl_GetPdu : List (Nat × LoopAnn) := [(0, ⟨⟨[(71, false, [.undef]), (72, false, [.undef]), (73, false, [.undef]), (74, false, [.undef])], [(1024, .box [.dat (.int .i64), .dat (.int .i64), .dat (.int .i64), .dat (.int .i64), .own 1000000000]), (1051648, .box [.dat (.int .i64), .dat (.int .i64), .dat (.int .i64), .dat (.int .i64), .own 1000000001]), (2363392, .box [.dat (.sl (.one (.int .u8))), .dat (.int .i64), .dat .bool]), (1000000000, .root cBind true), (1000000001, .root cBind true)]⟩,
    ⟨[], [(1024, .box [.dat (.int .i64), .dat (.int .i64), .dat (.int .i64), .dat (.int .i64), .own 1000000300]), (1051648, .box [.dat (.int .i64), .dat (.int .i64), .dat (.int .i64), .dat (.int .i64), .own 1000000301]), (2363392, .box [.dat (.sl (.one (.int .u8))), .dat (.int .i64), .dat .bool]), (1000000300, .root cBind true), (1000000301, .root cBind true)]⟩, some ⟨[(3, false, [.dat .bool])], [(1024, .box [.dat (.int .i64), .dat (.int .i64), .dat (.int .i64), .dat (.int .i64), .own 1000000600]), (1000000600, .root cBind true)]⟩⟩)]
theorem e_impl_GetPdu : fnDen ⟨tis, fns_365, [], false⟩ a_impl_GetPdu Tryz.f337 (codeOf Tryz.f337) [.val false (.one (.sl (.one (.int .u8)))) false] [.val true cPdu true, .val false (.one .bool) true] = fun a => impl_GetPdu a := by kernel_rfl
theorem m_impl_GetPdu : Meets Tryz.prog 337 F_impl_GetPdu := by
  have h := meets_of (ann := a_impl_GetPdu) (ps := [.val false (.one (.sl (.one (.int .u8)))) false]) (rs := [.val true cPdu true, .val false (.one .bool) true]) g_365 mixed Tryz.func337 (by kernel_rfl) (by kernel_rfl : Tryz.f337.body = some (codeOf Tryz.f337))
  rw [e_impl_GetPdu] at h
  exact h
noncomputable def fns_337 : List (FuncId × Fn) := (337, F_impl_GetPdu) :: fns_365
theorem g_337 : Good Tryz.prog ⟨tis, fns_337, [], false⟩ := g_365.cons m_impl_GetPdu
noncomputable def impl_GetMsg (p0 : List UInt8) (i1 : List Int) : Option (Pdu × Int) :=
  (impl_GetTlv i1 0).bind fun t17 =>
  (cond (!t17.2.2.2) (some true) (some (t17.1 != 48))).bind fun t27 =>
  (cond t27 (some true) (some (t17.2.2.1 != (i1.length : Int)))).bind fun t33 =>
  cond t33
    (some ((0, 0, 0, 0, []), 1))
    ((impl_parts_num (t17.2.1, 0, false) 2).bind fun t39 =>
    (impl_parts_part t39.1 4).bind fun t41 =>
    cond t41.1.2.2
      (some ((0, 0, 0, 0, []), 1))
      (cond (t39.2 != 1)
        (some ((0, 0, 0, 0, []), 2))
        (cond (!((bytesOf t41.2) == p0))
          (some ((0, 0, 0, 0, []), 3))
          ((cut t17.2.1 t41.1.2.1 (t17.2.1.length : Int)).bind fun t64 =>
          (impl_GetPdu t64).bind fun t65 =>
          cond (!t65.2) (some ((0, 0, 0, 0, []), 1)) (some (t65.1, 0))))))
noncomputable def F_impl_GetMsg : Fn := ⟨[.val false (.one .str) false, .val false (.one (.sl (.one (.int .u8)))) false], [.val true cPdu true, .val false (.one (.int .i64)) true], fun a => impl_GetMsg a.1 a.2⟩
def a_impl_GetMsg : List (Nat × LoopAnn) := []
theorem e_impl_GetMsg : fnDen ⟨tis, fns_337, [], false⟩ a_impl_GetMsg Tryz.f268 (codeOf Tryz.f268) [.val false (.one .str) false, .val false (.one (.sl (.one (.int .u8)))) false] [.val true cPdu true, .val false (.one (.int .i64)) true] = fun a => impl_GetMsg a.1 a.2 := by kernel_rfl
theorem m_impl_GetMsg : Meets Tryz.prog 268 F_impl_GetMsg := by
  have h := meets_of (ann := a_impl_GetMsg) (ps := [.val false (.one .str) false, .val false (.one (.sl (.one (.int .u8)))) false]) (rs := [.val true cPdu true, .val false (.one (.int .i64)) true]) g_337 mixed Tryz.func268 (by kernel_rfl) (by kernel_rfl : Tryz.f268.body = some (codeOf Tryz.f268))
  rw [e_impl_GetMsg] at h
  exact h
noncomputable def fns_268 : List (FuncId × Fn) := (268, F_impl_GetMsg) :: fns_337
theorem g_268 : Good Tryz.prog ⟨tis, fns_268, [], false⟩ := g_337.cons m_impl_GetMsg
noncomputable def impl_isAsked (a0 : Agent) (j1 : Job) : Option (Pdu × Bool) :=
  (impl_GetMsg a0.2.2.2.2.2.2.2.2.2.2.2.1 j1.2.1).bind fun t13 =>
  cond (t13.2 == 0) (some (t13.1, t13.1.1 != 162)) (some (t13.1, false))
noncomputable def F_impl_isAsked : Fn := ⟨[.val true cAgent false, .val true cJob false], [.val true cPdu true, .val false (.one .bool) true], fun a => impl_isAsked a.1 a.2⟩
def a_impl_isAsked : List (Nat × LoopAnn) := []
theorem e_impl_isAsked : fnDen ⟨tis, fns_268, [], false⟩ a_impl_isAsked Tryz.f153 (codeOf Tryz.f153) [.val true cAgent false, .val true cJob false] [.val true cPdu true, .val false (.one .bool) true] = fun a => impl_isAsked a.1 a.2 := by kernel_rfl
theorem m_impl_isAsked : Meets Tryz.prog 153 F_impl_isAsked := by
  have h := meets_of (ann := a_impl_isAsked) (ps := [.val true cAgent false, .val true cJob false]) (rs := [.val true cPdu true, .val false (.one .bool) true]) g_268 mixed Tryz.func153 (by kernel_rfl) (by kernel_rfl : Tryz.f153.body = some (codeOf Tryz.f153))
  rw [e_impl_isAsked] at h
  exact h
noncomputable def fns_153 : List (FuncId × Fn) := (153, F_impl_isAsked) :: fns_268
theorem g_153 : Good Tryz.prog ⟨tis, fns_153, [], false⟩ := g_268.cons m_impl_isAsked
noncomputable def impl_NeedOf (p0 : Agent) (i1 : Int) : Option Int :=
  (impl_AgentOk p0).bind fun t11 =>
  (cond (!t11)
    (some true)
    ((impl_in i1 0 (w64 ((p0.2.2.2.2.2.2.2.2.2.2.2.2.1.length : Int) - 1))).bind fun t19 =>
    some (!t19))).bind fun t21 =>
  cond t21
    (some 0)
    ((at? p0.2.2.2.2.2.2.2.2.2.2.2.2.1 i1).bind fun x25 =>
    let t6 := (x25.2.2.2.2.2.2.2.1.length : Int)
    (cond (x25.2.2.2.1 == 163)
      (some (p0.2.2.2.2.2.2.2.2.2.2.1 != x25.2.2.2.2.2.2.2.2.2.2.2.2.2.2.2.2.2.2.1))
      (some false)).bind fun t43 =>
    (cond t43
      (some (decide (x25.2.2.2.2.2.2.2.2.2.2.2.2.2.2.2.2.2.2.2.2 < 3)))
      (some false)).bind fun t48 =>
    cond t48
      (cond (x25.2.2.1 == 2)
        (some (w64 (t6 + 3)))
        (cond (x25.2.2.1 == 1)
          (let t4 := w64 ((w64 ((w64 (t6 - x25.2.2.2.2.2.2.2.2.2.2.2.2.2.2.2.2.2.2.2.1)) + 1)) + (w64 (t6 + 3)))
          some t4)
          ((impl_isAsked p0 x25).bind fun t68 =>
          cond (!t68.2)
            (some 1)
            (let t4_1 := w64 ((t68.1.2.2.2.2.length : Int) + 3)
            some t4_1))))
      (cond (x25.2.2.1 == 2)
        (some 1)
        (cond (x25.2.2.1 == 1)
          (let t4_2 := w64 ((w64 ((w64 (t6 - x25.2.2.2.2.2.2.2.2.2.2.2.2.2.2.2.2.2.2.2.1)) + 1)) + 1)
          some t4_2)
          ((impl_isAsked p0 x25).bind fun t68_1 =>
          cond (!t68_1.2)
            (some 1)
            (let t4_3 := w64 ((t68_1.1.2.2.2.2.length : Int) + 3)
            some t4_3)))))
noncomputable def F_impl_NeedOf : Fn := ⟨[.val true cAgent false, .val false (.one (.int .i64)) false], [.val false (.one (.int .i64)) true], fun a => impl_NeedOf a.1 a.2⟩
def a_impl_NeedOf : List (Nat × LoopAnn) := []
theorem e_impl_NeedOf : fnDen ⟨tis, fns_153, [], false⟩ a_impl_NeedOf Tryz.f57 (codeOf Tryz.f57) [.val true cAgent false, .val false (.one (.int .i64)) false] [.val false (.one (.int .i64)) true] = fun a => impl_NeedOf a.1 a.2 := by kernel_rfl
theorem m_impl_NeedOf : Meets Tryz.prog 57 F_impl_NeedOf := by
  have h := meets_of (ann := a_impl_NeedOf) (ps := [.val true cAgent false, .val false (.one (.int .i64)) false]) (rs := [.val false (.one (.int .i64)) true]) g_153 mixed Tryz.func57 (by kernel_rfl) (by kernel_rfl : Tryz.f57.body = some (codeOf Tryz.f57))
  rw [e_impl_NeedOf] at h
  exact h
noncomputable def fns_57 : List (FuncId × Fn) := (57, F_impl_NeedOf) :: fns_153
theorem g_57 : Good Tryz.prog ⟨tis, fns_57, [], false⟩ := g_153.cons m_impl_NeedOf
noncomputable def laws_eqVec (a0 : Vec) (b1 : Vec) : Option Bool :=
  cond (a0.1 != b1.1)
    (some false)
    (cond (a0.2.1 != b1.2.1)
      (some false)
      (cond (a0.2.2.1 != b1.2.2.1)
        (some false)
        (cond (a0.2.2.2.1 != b1.2.2.2.1)
          (some false)
          (cond (a0.2.2.2.2 != b1.2.2.2.2) (some false) (some true)))))
noncomputable def F_laws_eqVec : Fn := ⟨[.val true cVec false, .val true cVec false], [.val false (.one .bool) true], fun a => laws_eqVec a.1 a.2⟩
def a_laws_eqVec : List (Nat × LoopAnn) := []
theorem e_laws_eqVec : fnDen ⟨tis, fns_57, [], false⟩ a_laws_eqVec Tryz.f323 (codeOf Tryz.f323) [.val true cVec false, .val true cVec false] [.val false (.one .bool) true] = fun a => laws_eqVec a.1 a.2 := by kernel_rfl
theorem m_laws_eqVec : Meets Tryz.prog 323 F_laws_eqVec := by
  have h := meets_of (ann := a_laws_eqVec) (ps := [.val true cVec false, .val true cVec false]) (rs := [.val false (.one .bool) true]) g_57 mixed Tryz.func323 (by kernel_rfl) (by kernel_rfl : Tryz.f323.body = some (codeOf Tryz.f323))
  rw [e_laws_eqVec] at h
  exact h
noncomputable def fns_323 : List (FuncId × Fn) := (323, F_laws_eqVec) :: fns_57
theorem g_323 : Good Tryz.prog ⟨tis, fns_323, [], false⟩ := g_57.cons m_laws_eqVec
noncomputable def laws_eqPt (a0 : Pt) (b1 : Pt) : Option Bool :=
  cond (!(a0.1 == b1.1))
    (some false)
    (cond (a0.2.1 != b1.2.1)
      (some false)
      (cond (!(a0.2.2.1 == b1.2.2.1))
        (some false)
        ((laws_eqVec a0.2.2.2 b1.2.2.2).bind fun t24 =>
        cond (!t24) (some false) (some true))))
noncomputable def F_laws_eqPt : Fn := ⟨[.val true cPt false, .val true cPt false], [.val false (.one .bool) true], fun a => laws_eqPt a.1 a.2⟩
def a_laws_eqPt : List (Nat × LoopAnn) := []
theorem e_laws_eqPt : fnDen ⟨tis, fns_323, [], false⟩ a_laws_eqPt Tryz.f245 (codeOf Tryz.f245) [.val true cPt false, .val true cPt false] [.val false (.one .bool) true] = fun a => laws_eqPt a.1 a.2 := by kernel_rfl
theorem m_laws_eqPt : Meets Tryz.prog 245 F_laws_eqPt := by
  have h := meets_of (ann := a_laws_eqPt) (ps := [.val true cPt false, .val true cPt false]) (rs := [.val false (.one .bool) true]) g_323 mixed Tryz.func245 (by kernel_rfl) (by kernel_rfl : Tryz.f245.body = some (codeOf Tryz.f245))
  rw [e_laws_eqPt] at h
  exact h
noncomputable def fns_245 : List (FuncId × Fn) := (245, F_laws_eqPt) :: fns_323
theorem g_245 : Good Tryz.prog ⟨tis, fns_245, [], false⟩ := g_323.cons m_laws_eqPt
noncomputable def laws_eqPtS_l0 (a0 : List Pt) (b1 : List Pt) (i5 : Int) : Option (Int ⊕ (Unit ⊕ Bool)) :=
  cond (decide (i5 < (a0.length : Int)))
    ((at? a0 i5).bind fun x19 =>
    (at? b1 i5).bind fun x23 =>
    (laws_eqPt x19 x23).bind fun t25 =>
    cond (!t25) (some (.inr (.inr false))) (some (.inl (w64 (i5 + 1)))))
    (some (.inr (.inl ())))
noncomputable def laws_eqPtS (a0 : List Pt) (b1 : List Pt) : Option Bool :=
  cond ((a0.length : Int) != (b1.length : Int))
    (some false)
    ((loop (fun z => laws_eqPtS_l0 a0 b1 z) 0).bind (Sum.elim (fun d =>
      some true) (fun r => some r)))
noncomputable def F_laws_eqPtS : Fn := ⟨[.val false (.one (.sl cPt)) false, .val false (.one (.sl cPt)) false], [.val false (.one .bool) true], fun a => laws_eqPtS a.1 a.2⟩
def a_laws_eqPtS : List (Nat × LoopAnn) := [(0, ⟨⟨[(5, false, [.dat (.int .i64)])], []⟩,
    ⟨[], []⟩, some ⟨[(4, false, [.dat .bool])], []⟩⟩)]
theorem e_laws_eqPtS : fnDen ⟨tis, fns_245, [], false⟩ a_laws_eqPtS Tryz.f125 (codeOf Tryz.f125) [.val false (.one (.sl cPt)) false, .val false (.one (.sl cPt)) false] [.val false (.one .bool) true] = fun a => laws_eqPtS a.1 a.2 := by kernel_rfl
theorem m_laws_eqPtS : Meets Tryz.prog 125 F_laws_eqPtS := by
  have h := meets_of (ann := a_laws_eqPtS) (ps := [.val false (.one (.sl cPt)) false, .val false (.one (.sl cPt)) false]) (rs := [.val false (.one .bool) true]) g_245 mixed Tryz.func125 (by kernel_rfl) (by kernel_rfl : Tryz.f125.body = some (codeOf Tryz.f125))
  rw [e_laws_eqPtS] at h
  exact h
noncomputable def fns_125 : List (FuncId × Fn) := (125, F_laws_eqPtS) :: fns_245
theorem g_125 : Good Tryz.prog ⟨tis, fns_125, [], false⟩ := g_245.cons m_laws_eqPtS
noncomputable def laws_eqFent (a0 : Fent) (b1 : Fent) : Option Bool :=
  cond (a0.1 != b1.1)
    (some false)
    (cond (a0.2.1 != b1.2.1)
      (some false)
      (cond (a0.2.2.1 != b1.2.2.1)
        (some false)
        (cond (a0.2.2.2.1 != b1.2.2.2.1)
          (some false)
          (cond (!(a0.2.2.2.2 == b1.2.2.2.2)) (some false) (some true)))))
noncomputable def F_laws_eqFent : Fn := ⟨[.val true cFent false, .val true cFent false], [.val false (.one .bool) true], fun a => laws_eqFent a.1 a.2⟩
def a_laws_eqFent : List (Nat × LoopAnn) := []
theorem e_laws_eqFent : fnDen ⟨tis, fns_125, [], false⟩ a_laws_eqFent Tryz.f246 (codeOf Tryz.f246) [.val true cFent false, .val true cFent false] [.val false (.one .bool) true] = fun a => laws_eqFent a.1 a.2 := by kernel_rfl
theorem m_laws_eqFent : Meets Tryz.prog 246 F_laws_eqFent := by
  have h := meets_of (ann := a_laws_eqFent) (ps := [.val true cFent false, .val true cFent false]) (rs := [.val false (.one .bool) true]) g_125 mixed Tryz.func246 (by kernel_rfl) (by kernel_rfl : Tryz.f246.body = some (codeOf Tryz.f246))
  rw [e_laws_eqFent] at h
  exact h
noncomputable def fns_246 : List (FuncId × Fn) := (246, F_laws_eqFent) :: fns_125
theorem g_246 : Good Tryz.prog ⟨tis, fns_246, [], false⟩ := g_125.cons m_laws_eqFent
noncomputable def laws_eqFentS_l0 (a0 : List Fent) (b1 : List Fent) (i5 : Int) : Option (Int ⊕ (Unit ⊕ Bool)) :=
  cond (decide (i5 < (a0.length : Int)))
    ((at? a0 i5).bind fun x19 =>
    (at? b1 i5).bind fun x23 =>
    (laws_eqFent x19 x23).bind fun t25 =>
    cond (!t25) (some (.inr (.inr false))) (some (.inl (w64 (i5 + 1)))))
    (some (.inr (.inl ())))
noncomputable def laws_eqFentS (a0 : List Fent) (b1 : List Fent) : Option Bool :=
  cond ((a0.length : Int) != (b1.length : Int))
    (some false)
    ((loop (fun z => laws_eqFentS_l0 a0 b1 z) 0).bind (Sum.elim (fun d =>
      some true) (fun r => some r)))
noncomputable def F_laws_eqFentS : Fn := ⟨[.val false (.one (.sl cFent)) false, .val false (.one (.sl cFent)) false], [.val false (.one .bool) true], fun a => laws_eqFentS a.1 a.2⟩
def a_laws_eqFentS : List (Nat × LoopAnn) := [(0, ⟨⟨[(5, false, [.dat (.int .i64)])], []⟩,
    ⟨[], []⟩, some ⟨[(4, false, [.dat .bool])], []⟩⟩)]
theorem e_laws_eqFentS : fnDen ⟨tis, fns_246, [], false⟩ a_laws_eqFentS Tryz.f126 (codeOf Tryz.f126) [.val false (.one (.sl cFent)) false, .val false (.one (.sl cFent)) false] [.val false (.one .bool) true] = fun a => laws_eqFentS a.1 a.2 := by kernel_rfl
theorem m_laws_eqFentS : Meets Tryz.prog 126 F_laws_eqFentS := by
  have h := meets_of (ann := a_laws_eqFentS) (ps := [.val false (.one (.sl cFent)) false, .val false (.one (.sl cFent)) false]) (rs := [.val false (.one .bool) true]) g_246 mixed Tryz.func126 (by kernel_rfl) (by kernel_rfl : Tryz.f126.body = some (codeOf Tryz.f126))
  rw [e_laws_eqFentS] at h
  exact h
noncomputable def fns_126 : List (FuncId × Fn) := (126, F_laws_eqFentS) :: fns_246
theorem g_126 : Good Tryz.prog ⟨tis, fns_126, [], false⟩ := g_246.cons m_laws_eqFentS
noncomputable def laws_eqVrow (a0 : Vrow) (b1 : Vrow) : Option Bool :=
  cond (a0.1 != b1.1)
    (some false)
    (cond (a0.2.1 != b1.2.1) (some false) (cond (a0.2.2 != b1.2.2) (some false) (some true)))
noncomputable def F_laws_eqVrow : Fn := ⟨[.val true cVrow false, .val true cVrow false], [.val false (.one .bool) true], fun a => laws_eqVrow a.1 a.2⟩
def a_laws_eqVrow : List (Nat × LoopAnn) := []
theorem e_laws_eqVrow : fnDen ⟨tis, fns_126, [], false⟩ a_laws_eqVrow Tryz.f324 (codeOf Tryz.f324) [.val true cVrow false, .val true cVrow false] [.val false (.one .bool) true] = fun a => laws_eqVrow a.1 a.2 := by kernel_rfl
theorem m_laws_eqVrow : Meets Tryz.prog 324 F_laws_eqVrow := by
  have h := meets_of (ann := a_laws_eqVrow) (ps := [.val true cVrow false, .val true cVrow false]) (rs := [.val false (.one .bool) true]) g_126 mixed Tryz.func324 (by kernel_rfl) (by kernel_rfl : Tryz.f324.body = some (codeOf Tryz.f324))
  rw [e_laws_eqVrow] at h
  exact h
noncomputable def fns_324 : List (FuncId × Fn) := (324, F_laws_eqVrow) :: fns_126
theorem g_324 : Good Tryz.prog ⟨tis, fns_324, [], false⟩ := g_126.cons m_laws_eqVrow
noncomputable def laws_eqVrowS_l0 (a0 : List Vrow) (b1 : List Vrow) (i5 : Int) : Option (Int ⊕ (Unit ⊕ Bool)) :=
  cond (decide (i5 < (a0.length : Int)))
    ((at? a0 i5).bind fun x19 =>
    (at? b1 i5).bind fun x23 =>
    (laws_eqVrow x19 x23).bind fun t25 =>
    cond (!t25) (some (.inr (.inr false))) (some (.inl (w64 (i5 + 1)))))
    (some (.inr (.inl ())))
noncomputable def laws_eqVrowS (a0 : List Vrow) (b1 : List Vrow) : Option Bool :=
  cond ((a0.length : Int) != (b1.length : Int))
    (some false)
    ((loop (fun z => laws_eqVrowS_l0 a0 b1 z) 0).bind (Sum.elim (fun d =>
      some true) (fun r => some r)))
noncomputable def F_laws_eqVrowS : Fn := ⟨[.val false (.one (.sl cVrow)) false, .val false (.one (.sl cVrow)) false], [.val false (.one .bool) true], fun a => laws_eqVrowS a.1 a.2⟩
def a_laws_eqVrowS : List (Nat × LoopAnn) := [(0, ⟨⟨[(5, false, [.dat (.int .i64)])], []⟩,
    ⟨[], []⟩, some ⟨[(4, false, [.dat .bool])], []⟩⟩)]
theorem e_laws_eqVrowS : fnDen ⟨tis, fns_324, [], false⟩ a_laws_eqVrowS Tryz.f247 (codeOf Tryz.f247) [.val false (.one (.sl cVrow)) false, .val false (.one (.sl cVrow)) false] [.val false (.one .bool) true] = fun a => laws_eqVrowS a.1 a.2 := by kernel_rfl
theorem m_laws_eqVrowS : Meets Tryz.prog 247 F_laws_eqVrowS := by
  have h := meets_of (ann := a_laws_eqVrowS) (ps := [.val false (.one (.sl cVrow)) false, .val false (.one (.sl cVrow)) false]) (rs := [.val false (.one .bool) true]) g_324 mixed Tryz.func247 (by kernel_rfl) (by kernel_rfl : Tryz.f247.body = some (codeOf Tryz.f247))
  rw [e_laws_eqVrowS] at h
  exact h
noncomputable def fns_247 : List (FuncId × Fn) := (247, F_laws_eqVrowS) :: fns_324
theorem g_247 : Good Tryz.prog ⟨tis, fns_247, [], false⟩ := g_324.cons m_laws_eqVrowS
noncomputable def laws_eqIntS_l0 (a0 : List Int) (b1 : List Int) (i5 : Int) : Option (Int ⊕ (Unit ⊕ Bool)) :=
  cond (decide (i5 < (a0.length : Int)))
    ((at? a0 i5).bind fun x19 =>
    (at? b1 i5).bind fun x23 =>
    cond (x19 != x23) (some (.inr (.inr false))) (some (.inl (w64 (i5 + 1)))))
    (some (.inr (.inl ())))
noncomputable def laws_eqIntS (a0 : List Int) (b1 : List Int) : Option Bool :=
  cond ((a0.length : Int) != (b1.length : Int))
    (some false)
    ((loop (fun z => laws_eqIntS_l0 a0 b1 z) 0).bind (Sum.elim (fun d =>
      some true) (fun r => some r)))
noncomputable def F_laws_eqIntS : Fn := ⟨[.val false (.one (.sl (.one (.int .i64)))) false, .val false (.one (.sl (.one (.int .i64)))) false], [.val false (.one .bool) true], fun a => laws_eqIntS a.1 a.2⟩
def a_laws_eqIntS : List (Nat × LoopAnn) := [(0, ⟨⟨[(5, false, [.dat (.int .i64)])], []⟩,
    ⟨[], []⟩, some ⟨[(4, false, [.dat .bool])], []⟩⟩)]
theorem e_laws_eqIntS : fnDen ⟨tis, fns_247, [], false⟩ a_laws_eqIntS Tryz.f248 (codeOf Tryz.f248) [.val false (.one (.sl (.one (.int .i64)))) false, .val false (.one (.sl (.one (.int .i64)))) false] [.val false (.one .bool) true] = fun a => laws_eqIntS a.1 a.2 := by kernel_rfl
theorem m_laws_eqIntS : Meets Tryz.prog 248 F_laws_eqIntS := by
  have h := meets_of (ann := a_laws_eqIntS) (ps := [.val false (.one (.sl (.one (.int .i64)))) false, .val false (.one (.sl (.one (.int .i64)))) false]) (rs := [.val false (.one .bool) true]) g_247 mixed Tryz.func248 (by kernel_rfl) (by kernel_rfl : Tryz.f248.body = some (codeOf Tryz.f248))
  rw [e_laws_eqIntS] at h
  exact h
noncomputable def fns_248 : List (FuncId × Fn) := (248, F_laws_eqIntS) :: fns_247
theorem g_248 : Good Tryz.prog ⟨tis, fns_248, [], false⟩ := g_247.cons m_laws_eqIntS
noncomputable def laws_eqVtab (a0 : Vtab) (b1 : Vtab) : Option Bool :=
  (laws_eqVrowS a0.1 b1.1).bind fun t9 =>
  cond (!t9)
    (some false)
    ((laws_eqIntS a0.2 b1.2).bind fun t15 =>
    cond (!t15) (some false) (some true))
noncomputable def F_laws_eqVtab : Fn := ⟨[.val true cVtab false, .val true cVtab false], [.val false (.one .bool) true], fun a => laws_eqVtab a.1 a.2⟩
def a_laws_eqVtab : List (Nat × LoopAnn) := []
theorem e_laws_eqVtab : fnDen ⟨tis, fns_248, [], false⟩ a_laws_eqVtab Tryz.f127 (codeOf Tryz.f127) [.val true cVtab false, .val true cVtab false] [.val false (.one .bool) true] = fun a => laws_eqVtab a.1 a.2 := by kernel_rfl
theorem m_laws_eqVtab : Meets Tryz.prog 127 F_laws_eqVtab := by
  have h := meets_of (ann := a_laws_eqVtab) (ps := [.val true cVtab false, .val true cVtab false]) (rs := [.val false (.one .bool) true]) g_248 mixed Tryz.func127 (by kernel_rfl) (by kernel_rfl : Tryz.f127.body = some (codeOf Tryz.f127))
  rw [e_laws_eqVtab] at h
  exact h
noncomputable def fns_127 : List (FuncId × Fn) := (127, F_laws_eqVtab) :: fns_248
theorem g_127 : Good Tryz.prog ⟨tis, fns_127, [], false⟩ := g_248.cons m_laws_eqVtab
noncomputable def laws_eqBridge (a0 : Bridge) (b1 : Bridge) : Option Bool :=
  cond (a0.1 != b1.1)
    (some false)
    (cond (!(a0.2.1 == b1.2.1))
      (some false)
      ((laws_eqPtS a0.2.2.1 b1.2.2.1).bind fun t19 =>
      cond (!t19)
        (some false)
        ((laws_eqFentS a0.2.2.2.1 b1.2.2.2.1).bind fun t25 =>
        cond (!t25)
          (some false)
          ((laws_eqVtab (a0.2.2.2.2.1, a0.2.2.2.2.2.1) (b1.2.2.2.2.1, b1.2.2.2.2.2.1)).bind fun t31 =>
          cond (!t31)
            (some false)
            (cond (a0.2.2.2.2.2.2.1 != b1.2.2.2.2.2.2.1)
              (some false)
              (cond (a0.2.2.2.2.2.2.2.1 != b1.2.2.2.2.2.2.2.1)
                (some false)
                (cond (a0.2.2.2.2.2.2.2.2.1 != b1.2.2.2.2.2.2.2.2.1)
                  (some false)
                  (cond (a0.2.2.2.2.2.2.2.2.2.1 != b1.2.2.2.2.2.2.2.2.2.1)
                    (some false)
                    (cond (a0.2.2.2.2.2.2.2.2.2.2 != b1.2.2.2.2.2.2.2.2.2.2) (some false) (some true))))))))))
noncomputable def F_laws_eqBridge : Fn := ⟨[.val true cBridge false, .val true cBridge false], [.val false (.one .bool) true], fun a => laws_eqBridge a.1 a.2⟩
def a_laws_eqBridge : List (Nat × LoopAnn) := []
theorem e_laws_eqBridge : fnDen ⟨tis, fns_127, [], false⟩ a_laws_eqBridge Tryz.f44 (codeOf Tryz.f44) [.val true cBridge false, .val true cBridge false] [.val false (.one .bool) true] = fun a => laws_eqBridge a.1 a.2 := by kernel_rfl
theorem m_laws_eqBridge : Meets Tryz.prog 44 F_laws_eqBridge := by
  have h := meets_of (ann := a_laws_eqBridge) (ps := [.val true cBridge false, .val true cBridge false]) (rs := [.val false (.one .bool) true]) g_127 mixed Tryz.func44 (by kernel_rfl) (by kernel_rfl : Tryz.f44.body = some (codeOf Tryz.f44))
  rw [e_laws_eqBridge] at h
  exact h
noncomputable def fns_44 : List (FuncId × Fn) := (44, F_laws_eqBridge) :: fns_127
theorem g_44 : Good Tryz.prog ⟨tis, fns_44, [], false⟩ := g_127.cons m_laws_eqBridge
noncomputable def laws_eqByteS_l0 (a0 : List Int) (b1 : List Int) (i5 : Int) : Option (Int ⊕ (Unit ⊕ Bool)) :=
  cond (decide (i5 < (a0.length : Int)))
    ((at? a0 i5).bind fun x19 =>
    (at? b1 i5).bind fun x23 =>
    cond (x19 != x23) (some (.inr (.inr false))) (some (.inl (w64 (i5 + 1)))))
    (some (.inr (.inl ())))
noncomputable def laws_eqByteS (a0 : List Int) (b1 : List Int) : Option Bool :=
  cond ((a0.length : Int) != (b1.length : Int))
    (some false)
    ((loop (fun z => laws_eqByteS_l0 a0 b1 z) 0).bind (Sum.elim (fun d =>
      some true) (fun r => some r)))
noncomputable def F_laws_eqByteS : Fn := ⟨[.val false (.one (.sl (.one (.int .u8)))) false, .val false (.one (.sl (.one (.int .u8)))) false], [.val false (.one .bool) true], fun a => laws_eqByteS a.1 a.2⟩
def a_laws_eqByteS : List (Nat × LoopAnn) := [(0, ⟨⟨[(5, false, [.dat (.int .i64)])], []⟩,
    ⟨[], []⟩, some ⟨[(4, false, [.dat .bool])], []⟩⟩)]
theorem e_laws_eqByteS : fnDen ⟨tis, fns_44, [], false⟩ a_laws_eqByteS Tryz.f61 (codeOf Tryz.f61) [.val false (.one (.sl (.one (.int .u8)))) false, .val false (.one (.sl (.one (.int .u8)))) false] [.val false (.one .bool) true] = fun a => laws_eqByteS a.1 a.2 := by kernel_rfl
theorem m_laws_eqByteS : Meets Tryz.prog 61 F_laws_eqByteS := by
  have h := meets_of (ann := a_laws_eqByteS) (ps := [.val false (.one (.sl (.one (.int .u8)))) false, .val false (.one (.sl (.one (.int .u8)))) false]) (rs := [.val false (.one .bool) true]) g_44 mixed Tryz.func61 (by kernel_rfl) (by kernel_rfl : Tryz.f61.body = some (codeOf Tryz.f61))
  rw [e_laws_eqByteS] at h
  exact h
noncomputable def fns_61 : List (FuncId × Fn) := (61, F_laws_eqByteS) :: fns_44
theorem g_61 : Good Tryz.prog ⟨tis, fns_61, [], false⟩ := g_44.cons m_laws_eqByteS
noncomputable def laws_eqVal (a0 : Val) (b1 : Val) : Option Bool :=
  cond (a0.1 != b1.1)
    (some false)
    (cond (a0.2.1 != b1.2.1)
      (some false)
      (cond (!(a0.2.2.1 == b1.2.2.1))
        (some false)
        ((laws_eqIntS a0.2.2.2 b1.2.2.2).bind fun t24 =>
        cond (!t24) (some false) (some true))))
noncomputable def F_laws_eqVal : Fn := ⟨[.val true cVal false, .val true cVal false], [.val false (.one .bool) true], fun a => laws_eqVal a.1 a.2⟩
def a_laws_eqVal : List (Nat × LoopAnn) := []
theorem e_laws_eqVal : fnDen ⟨tis, fns_61, [], false⟩ a_laws_eqVal Tryz.f249 (codeOf Tryz.f249) [.val true cVal false, .val true cVal false] [.val false (.one .bool) true] = fun a => laws_eqVal a.1 a.2 := by kernel_rfl
theorem m_laws_eqVal : Meets Tryz.prog 249 F_laws_eqVal := by
  have h := meets_of (ann := a_laws_eqVal) (ps := [.val true cVal false, .val true cVal false]) (rs := [.val false (.one .bool) true]) g_61 mixed Tryz.func249 (by kernel_rfl) (by kernel_rfl : Tryz.f249.body = some (codeOf Tryz.f249))
  rw [e_laws_eqVal] at h
  exact h
noncomputable def fns_249 : List (FuncId × Fn) := (249, F_laws_eqVal) :: fns_61
theorem g_249 : Good Tryz.prog ⟨tis, fns_249, [], false⟩ := g_61.cons m_laws_eqVal
noncomputable def laws_eqBind (a0 : Bind) (b1 : Bind) : Option Bool :=
  (laws_eqIntS a0.1 b1.1).bind fun t9 =>
  cond (!t9)
    (some false)
    ((laws_eqVal a0.2 b1.2).bind fun t15 =>
    cond (!t15) (some false) (some true))
noncomputable def F_laws_eqBind : Fn := ⟨[.val true cBind false, .val true cBind false], [.val false (.one .bool) true], fun a => laws_eqBind a.1 a.2⟩
def a_laws_eqBind : List (Nat × LoopAnn) := []
theorem e_laws_eqBind : fnDen ⟨tis, fns_249, [], false⟩ a_laws_eqBind Tryz.f128 (codeOf Tryz.f128) [.val true cBind false, .val true cBind false] [.val false (.one .bool) true] = fun a => laws_eqBind a.1 a.2 := by kernel_rfl
theorem m_laws_eqBind : Meets Tryz.prog 128 F_laws_eqBind := by
  have h := meets_of (ann := a_laws_eqBind) (ps := [.val true cBind false, .val true cBind false]) (rs := [.val false (.one .bool) true]) g_249 mixed Tryz.func128 (by kernel_rfl) (by kernel_rfl : Tryz.f128.body = some (codeOf Tryz.f128))
  rw [e_laws_eqBind] at h
  exact h
noncomputable def fns_128 : List (FuncId × Fn) := (128, F_laws_eqBind) :: fns_249
theorem g_128 : Good Tryz.prog ⟨tis, fns_128, [], false⟩ := g_249.cons m_laws_eqBind
noncomputable def laws_eqBindS_l0 (a0 : List Bind) (b1 : List Bind) (i5 : Int) : Option (Int ⊕ (Unit ⊕ Bool)) :=
  cond (decide (i5 < (a0.length : Int)))
    ((at? a0 i5).bind fun x19 =>
    (at? b1 i5).bind fun x23 =>
    (laws_eqBind x19 x23).bind fun t25 =>
    cond (!t25) (some (.inr (.inr false))) (some (.inl (w64 (i5 + 1)))))
    (some (.inr (.inl ())))
noncomputable def laws_eqBindS (a0 : List Bind) (b1 : List Bind) : Option Bool :=
  cond ((a0.length : Int) != (b1.length : Int))
    (some false)
    ((loop (fun z => laws_eqBindS_l0 a0 b1 z) 0).bind (Sum.elim (fun d =>
      some true) (fun r => some r)))
noncomputable def F_laws_eqBindS : Fn := ⟨[.val false (.one (.sl cBind)) false, .val false (.one (.sl cBind)) false], [.val false (.one .bool) true], fun a => laws_eqBindS a.1 a.2⟩
def a_laws_eqBindS : List (Nat × LoopAnn) := [(0, ⟨⟨[(5, false, [.dat (.int .i64)])], []⟩,
    ⟨[], []⟩, some ⟨[(4, false, [.dat .bool])], []⟩⟩)]
theorem e_laws_eqBindS : fnDen ⟨tis, fns_128, [], false⟩ a_laws_eqBindS Tryz.f45 (codeOf Tryz.f45) [.val false (.one (.sl cBind)) false, .val false (.one (.sl cBind)) false] [.val false (.one .bool) true] = fun a => laws_eqBindS a.1 a.2 := by kernel_rfl
theorem m_laws_eqBindS : Meets Tryz.prog 45 F_laws_eqBindS := by
  have h := meets_of (ann := a_laws_eqBindS) (ps := [.val false (.one (.sl cBind)) false, .val false (.one (.sl cBind)) false]) (rs := [.val false (.one .bool) true]) g_128 mixed Tryz.func45 (by kernel_rfl) (by kernel_rfl : Tryz.f45.body = some (codeOf Tryz.f45))
  rw [e_laws_eqBindS] at h
  exact h
noncomputable def fns_45 : List (FuncId × Fn) := (45, F_laws_eqBindS) :: fns_128
theorem g_45 : Good Tryz.prog ⟨tis, fns_45, [], false⟩ := g_128.cons m_laws_eqBindS
noncomputable def laws_eqPdu (a0 : Pdu) (b1 : Pdu) : Option Bool :=
  cond (a0.1 != b1.1)
    (some false)
    (cond (a0.2.1 != b1.2.1)
      (some false)
      (cond (a0.2.2.1 != b1.2.2.1)
        (some false)
        (cond (a0.2.2.2.1 != b1.2.2.2.1)
          (some false)
          ((laws_eqBindS a0.2.2.2.2 b1.2.2.2.2).bind fun t29 =>
          cond (!t29) (some false) (some true)))))
noncomputable def F_laws_eqPdu : Fn := ⟨[.val true cPdu false, .val true cPdu false], [.val false (.one .bool) true], fun a => laws_eqPdu a.1 a.2⟩
def a_laws_eqPdu : List (Nat × LoopAnn) := []
theorem e_laws_eqPdu : fnDen ⟨tis, fns_45, [], false⟩ a_laws_eqPdu Tryz.f338 (codeOf Tryz.f338) [.val true cPdu false, .val true cPdu false] [.val false (.one .bool) true] = fun a => laws_eqPdu a.1 a.2 := by kernel_rfl
theorem m_laws_eqPdu : Meets Tryz.prog 338 F_laws_eqPdu := by
  have h := meets_of (ann := a_laws_eqPdu) (ps := [.val true cPdu false, .val true cPdu false]) (rs := [.val false (.one .bool) true]) g_45 mixed Tryz.func338 (by kernel_rfl) (by kernel_rfl : Tryz.f338.body = some (codeOf Tryz.f338))
  rw [e_laws_eqPdu] at h
  exact h
noncomputable def fns_338 : List (FuncId × Fn) := (338, F_laws_eqPdu) :: fns_45
theorem g_338 : Good Tryz.prog ⟨tis, fns_338, [], false⟩ := g_45.cons m_laws_eqPdu
noncomputable def laws_eqJob (a0 : Job) (b1 : Job) : Option Bool :=
  cond (a0.1 != b1.1)
    (some false)
    ((laws_eqByteS a0.2.1 b1.2.1).bind fun t14 =>
    cond (!t14)
      (some false)
      (cond (a0.2.2.1 != b1.2.2.1)
        (some false)
        ((laws_eqPdu (a0.2.2.2.1, a0.2.2.2.2.1, a0.2.2.2.2.2.1, a0.2.2.2.2.2.2.1, a0.2.2.2.2.2.2.2.1) (b1.2.2.2.1, b1.2.2.2.2.1, b1.2.2.2.2.2.1, b1.2.2.2.2.2.2.1, b1.2.2.2.2.2.2.2.1)).bind fun t25 =>
        cond (!t25)
          (some false)
          ((laws_eqBridge (a0.2.2.2.2.2.2.2.2.1, a0.2.2.2.2.2.2.2.2.2.1, a0.2.2.2.2.2.2.2.2.2.2.1, a0.2.2.2.2.2.2.2.2.2.2.2.1, a0.2.2.2.2.2.2.2.2.2.2.2.2.1, a0.2.2.2.2.2.2.2.2.2.2.2.2.2.1, a0.2.2.2.2.2.2.2.2.2.2.2.2.2.2.1, a0.2.2.2.2.2.2.2.2.2.2.2.2.2.2.2.1, a0.2.2.2.2.2.2.2.2.2.2.2.2.2.2.2.2.1, a0.2.2.2.2.2.2.2.2.2.2.2.2.2.2.2.2.2.1, a0.2.2.2.2.2.2.2.2.2.2.2.2.2.2.2.2.2.2.1) (b1.2.2.2.2.2.2.2.2.1, b1.2.2.2.2.2.2.2.2.2.1, b1.2.2.2.2.2.2.2.2.2.2.1, b1.2.2.2.2.2.2.2.2.2.2.2.1, b1.2.2.2.2.2.2.2.2.2.2.2.2.1, b1.2.2.2.2.2.2.2.2.2.2.2.2.2.1, b1.2.2.2.2.2.2.2.2.2.2.2.2.2.2.1, b1.2.2.2.2.2.2.2.2.2.2.2.2.2.2.2.1, b1.2.2.2.2.2.2.2.2.2.2.2.2.2.2.2.2.1, b1.2.2.2.2.2.2.2.2.2.2.2.2.2.2.2.2.2.1, b1.2.2.2.2.2.2.2.2.2.2.2.2.2.2.2.2.2.2.1)).bind fun t31 =>
          cond (!t31)
            (some false)
            (cond (a0.2.2.2.2.2.2.2.2.2.2.2.2.2.2.2.2.2.2.2.1 != b1.2.2.2.2.2.2.2.2.2.2.2.2.2.2.2.2.2.2.2.1)
              (some false)
              (cond (a0.2.2.2.2.2.2.2.2.2.2.2.2.2.2.2.2.2.2.2.2 != b1.2.2.2.2.2.2.2.2.2.2.2.2.2.2.2.2.2.2.2.2) (some false) (some true)))))))
noncomputable def F_laws_eqJob : Fn := ⟨[.val true cJob false, .val true cJob false], [.val false (.one .bool) true], fun a => laws_eqJob a.1 a.2⟩
def a_laws_eqJob : List (Nat × LoopAnn) := []
theorem e_laws_eqJob : fnDen ⟨tis, fns_338, [], false⟩ a_laws_eqJob Tryz.f269 (codeOf Tryz.f269) [.val true cJob false, .val true cJob false] [.val false (.one .bool) true] = fun a => laws_eqJob a.1 a.2 := by kernel_rfl
theorem m_laws_eqJob : Meets Tryz.prog 269 F_laws_eqJob := by
  have h := meets_of (ann := a_laws_eqJob) (ps := [.val true cJob false, .val true cJob false]) (rs := [.val false (.one .bool) true]) g_338 mixed Tryz.func269 (by kernel_rfl) (by kernel_rfl : Tryz.f269.body = some (codeOf Tryz.f269))
  rw [e_laws_eqJob] at h
  exact h
noncomputable def fns_269 : List (FuncId × Fn) := (269, F_laws_eqJob) :: fns_338
theorem g_269 : Good Tryz.prog ⟨tis, fns_269, [], false⟩ := g_338.cons m_laws_eqJob
noncomputable def laws_eqJobS_l0 (a0 : List Job) (b1 : List Job) (i5 : Int) : Option (Int ⊕ (Unit ⊕ Bool)) :=
  cond (decide (i5 < (a0.length : Int)))
    ((at? a0 i5).bind fun x19 =>
    (at? b1 i5).bind fun x23 =>
    (laws_eqJob x19 x23).bind fun t25 =>
    cond (!t25) (some (.inr (.inr false))) (some (.inl (w64 (i5 + 1)))))
    (some (.inr (.inl ())))
noncomputable def laws_eqJobS (a0 : List Job) (b1 : List Job) : Option Bool :=
  cond ((a0.length : Int) != (b1.length : Int))
    (some false)
    ((loop (fun z => laws_eqJobS_l0 a0 b1 z) 0).bind (Sum.elim (fun d =>
      some true) (fun r => some r)))
noncomputable def F_laws_eqJobS : Fn := ⟨[.val false (.one (.sl cJob)) false, .val false (.one (.sl cJob)) false], [.val false (.one .bool) true], fun a => laws_eqJobS a.1 a.2⟩
def a_laws_eqJobS : List (Nat × LoopAnn) := [(0, ⟨⟨[(5, false, [.dat (.int .i64)])], []⟩,
    ⟨[], []⟩, some ⟨[(4, false, [.dat .bool])], []⟩⟩)]
theorem e_laws_eqJobS : fnDen ⟨tis, fns_269, [], false⟩ a_laws_eqJobS Tryz.f154 (codeOf Tryz.f154) [.val false (.one (.sl cJob)) false, .val false (.one (.sl cJob)) false] [.val false (.one .bool) true] = fun a => laws_eqJobS a.1 a.2 := by kernel_rfl
theorem m_laws_eqJobS : Meets Tryz.prog 154 F_laws_eqJobS := by
  have h := meets_of (ann := a_laws_eqJobS) (ps := [.val false (.one (.sl cJob)) false, .val false (.one (.sl cJob)) false]) (rs := [.val false (.one .bool) true]) g_269 mixed Tryz.func154 (by kernel_rfl) (by kernel_rfl : Tryz.f154.body = some (codeOf Tryz.f154))
  rw [e_laws_eqJobS] at h
  exact h
noncomputable def fns_154 : List (FuncId × Fn) := (154, F_laws_eqJobS) :: fns_269
theorem g_154 : Good Tryz.prog ⟨tis, fns_154, [], false⟩ := g_269.cons m_laws_eqJobS
noncomputable def laws_eqAgent (a0 : Agent) (b1 : Agent) : Option Bool :=
  (laws_eqBridge (a0.1, a0.2.1, a0.2.2.1, a0.2.2.2.1, a0.2.2.2.2.1, a0.2.2.2.2.2.1, a0.2.2.2.2.2.2.1, a0.2.2.2.2.2.2.2.1, a0.2.2.2.2.2.2.2.2.1, a0.2.2.2.2.2.2.2.2.2.1, a0.2.2.2.2.2.2.2.2.2.2.1) (b1.1, b1.2.1, b1.2.2.1, b1.2.2.2.1, b1.2.2.2.2.1, b1.2.2.2.2.2.1, b1.2.2.2.2.2.2.1, b1.2.2.2.2.2.2.2.1, b1.2.2.2.2.2.2.2.2.1, b1.2.2.2.2.2.2.2.2.2.1, b1.2.2.2.2.2.2.2.2.2.2.1)).bind fun t9 =>
  cond (!t9)
    (some false)
    (cond (!(a0.2.2.2.2.2.2.2.2.2.2.2.1 == b1.2.2.2.2.2.2.2.2.2.2.2.1))
      (some false)
      ((laws_eqJobS a0.2.2.2.2.2.2.2.2.2.2.2.2.1 b1.2.2.2.2.2.2.2.2.2.2.2.2.1).bind fun t20 =>
      cond (!t20)
        (some false)
        (cond (a0.2.2.2.2.2.2.2.2.2.2.2.2.2.1 != b1.2.2.2.2.2.2.2.2.2.2.2.2.2.1)
          (some false)
          (cond (a0.2.2.2.2.2.2.2.2.2.2.2.2.2.2 != b1.2.2.2.2.2.2.2.2.2.2.2.2.2.2) (some false) (some true)))))
noncomputable def F_laws_eqAgent : Fn := ⟨[.val true cAgent false, .val true cAgent false], [.val false (.one .bool) true], fun a => laws_eqAgent a.1 a.2⟩
def a_laws_eqAgent : List (Nat × LoopAnn) := []
theorem e_laws_eqAgent : fnDen ⟨tis, fns_154, [], false⟩ a_laws_eqAgent Tryz.f58 (codeOf Tryz.f58) [.val true cAgent false, .val true cAgent false] [.val false (.one .bool) true] = fun a => laws_eqAgent a.1 a.2 := by kernel_rfl
theorem m_laws_eqAgent : Meets Tryz.prog 58 F_laws_eqAgent := by
  have h := meets_of (ann := a_laws_eqAgent) (ps := [.val true cAgent false, .val true cAgent false]) (rs := [.val false (.one .bool) true]) g_154 mixed Tryz.func58 (by kernel_rfl) (by kernel_rfl : Tryz.f58.body = some (codeOf Tryz.f58))
  rw [e_laws_eqAgent] at h
  exact h
noncomputable def fns_58 : List (FuncId × Fn) := (58, F_laws_eqAgent) :: fns_154
theorem g_58 : Good Tryz.prog ⟨tis, fns_58, [], false⟩ := g_154.cons m_laws_eqAgent
noncomputable def laws_FnExactNeedOf (aA0 : Agent) (aK1 : Int) : Option Bool :=
  (laws_szAgent aA0 1048576).bind fun t11 =>
  cond (decide (t11 < 0))
    (some true)
    ((laws_toAgent aA0).bind fun t15 =>
    (spec_NeedOf t15 aK1).bind fun t17 =>
    (laws_toAgent aA0).bind fun t19 =>
    (impl_NeedOf t19 aK1).bind fun t22 =>
    cond (t22 != t17)
      (some false)
      ((laws_toAgent aA0).bind fun t28 =>
      (laws_eqAgent t19 t28).bind fun t29 =>
      cond (!t29) (some false) (some true)))
noncomputable def F_laws_FnExactNeedOf : Fn := ⟨[.val true cAgent false, .val false (.one (.int .i64)) false], [.val false (.one .bool) true], fun a => laws_FnExactNeedOf a.1 a.2⟩
def a_laws_FnExactNeedOf : List (Nat × LoopAnn) := []
theorem e_laws_FnExactNeedOf : fnDen ⟨tis, fns_58, [], false⟩ a_laws_FnExactNeedOf Tryz.f9 (codeOf Tryz.f9) [.val true cAgent false, .val false (.one (.int .i64)) false] [.val false (.one .bool) true] = fun a => laws_FnExactNeedOf a.1 a.2 := by kernel_rfl
theorem m_laws_FnExactNeedOf : Meets Tryz.prog 9 F_laws_FnExactNeedOf := by
  have h := meets_of (ann := a_laws_FnExactNeedOf) (ps := [.val true cAgent false, .val false (.one (.int .i64)) false]) (rs := [.val false (.one .bool) true]) g_58 mixed Tryz.func9 (by kernel_rfl) (by kernel_rfl : Tryz.f9.body = some (codeOf Tryz.f9))
  rw [e_laws_FnExactNeedOf] at h
  exact h
noncomputable def fns_9 : List (FuncId × Fn) := (9, F_laws_FnExactNeedOf) :: fns_58
theorem g_9 : Good Tryz.prog ⟨tis, fns_9, [], false⟩ := g_58.cons m_laws_FnExactNeedOf
end Go.V.W
