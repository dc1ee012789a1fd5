/- The law FnExactArrive: part of the proof that for every input it returns true. No condition. -/
import Derived.Test.YtdhcmckfgnommaaGreatV4
import Derived.Test.YtdhcmckfgnommaaGreatProg
import Derived.Test.YtdhcmckfgnommaaGreatChecked
import Derived.KernelRfl
namespace Go.V.W
open Go.Proofs
set_option linter.unusedVariables false
@[reducible] def cFent : Cs := .cons (.int .i64) (.cons (.int .i64) (.cons (.int .i64) (.cons (.int .i64) (.one .bool))))
@[reducible] def cVrow : Cs := .cons (.int .i64) (.cons (.int .i64) (.one (.int .i64)))
@[reducible] def cVtab : Cs := .cons (.sl cVrow) (.one (.sl (.one (.int .i64))))
@[reducible] def cVec : Cs := .cons (.int .i64) (.cons (.int .i64) (.cons (.int .i64) (.cons (.int .i64) (.one (.int .i64)))))
@[reducible] def cPt : Cs := .cons .bool (.cons (.int .i64) (.cons .bool (.cons (.int .i64) (.cons (.int .i64) (.cons (.int .i64) (.cons (.int .i64) (.one (.int .i64))))))))
@[reducible] def cBridge : Cs := .cons (.int .i64) (.cons .str (.cons (.sl cPt) (.cons (.sl cFent) (.cons (.sl cVrow) (.cons (.sl (.one (.int .i64))) (.cons (.int .i64) (.cons (.int .i64) (.cons (.int .i64) (.cons (.int .i64) (.one (.int .i64)))))))))))
@[reducible] def cVal : Cs := .cons (.int .i64) (.cons (.int .i64) (.cons .str (.one (.sl (.one (.int .i64))))))
@[reducible] def cBind : Cs := .cons (.sl (.one (.int .i64))) (.cons (.int .i64) (.cons (.int .i64) (.cons .str (.one (.sl (.one (.int .i64)))))))
@[reducible] def cPdu : Cs := .cons (.int .i64) (.cons (.int .i64) (.cons (.int .i64) (.cons (.int .i64) (.one (.sl cBind)))))
@[reducible] def cJob : Cs := .cons (.int .i64) (.cons (.sl (.one (.int .u8))) (.cons (.int .i64) (.cons (.int .i64) (.cons (.int .i64) (.cons (.int .i64) (.cons (.int .i64) (.cons (.sl cBind) (.cons (.int .i64) (.cons .str (.cons (.sl cPt) (.cons (.sl cFent) (.cons (.sl cVrow) (.cons (.sl (.one (.int .i64))) (.cons (.int .i64) (.cons (.int .i64) (.cons (.int .i64) (.cons (.int .i64) (.cons (.int .i64) (.cons (.int .i64) (.one (.int .i64)))))))))))))))))))))
@[reducible] def cAgent : Cs := .cons (.int .i64) (.cons .str (.cons (.sl cPt) (.cons (.sl cFent) (.cons (.sl cVrow) (.cons (.sl (.one (.int .i64))) (.cons (.int .i64) (.cons (.int .i64) (.cons (.int .i64) (.cons (.int .i64) (.cons (.int .i64) (.cons .str (.cons (.sl cJob) (.cons (.int .i64) (.one (.int .i64)))))))))))))))
abbrev Fent : Type := Int × Int × Int × Int × Bool
abbrev Vrow : Type := Int × Int × Int
abbrev Vtab : Type := List Vrow × List Int
abbrev Vec : Type := Int × Int × Int × Int × Int
abbrev Pt : Type := Bool × Int × Bool × Int × Int × Int × Int × Int
abbrev Bridge : Type := Int × List UInt8 × List Pt × List Fent × List Vrow × List Int × Int × Int × Int × Int × Int
abbrev Val : Type := Int × Int × List UInt8 × List Int
abbrev Bind : Type := List Int × Int × Int × List UInt8 × List Int
abbrev Pdu : Type := Int × Int × Int × Int × List Bind
abbrev Job : Type := Int × List Int × Int × Int × Int × Int × Int × List Bind × Int × List UInt8 × List Pt × List Fent × List Vrow × List Int × Int × Int × Int × Int × Int × Int × Int
abbrev Agent : Type := Int × List UInt8 × List Pt × List Fent × List Vrow × List Int × Int × Int × Int × Int × Int × List UInt8 × List Job × Int × Int
def tis : List (Nat × TInfo) := [(2, ⟨false, .one (.int .i64), [], 0⟩),
  (3, ⟨false, .one (.int .i64), [], 0⟩),
  (4, ⟨false, .one .bool, [], 0⟩),
  (5, ⟨false, .one (.int .u8), [], 0⟩),
  (6, ⟨false, .one (.int .u8), [], 0⟩),
  (9, ⟨false, .one .str, [], 0⟩),
  (10, ⟨false, .one .str, [], 0⟩),
  (11, ⟨false, .one .str, [], 0⟩),
  (12, ⟨false, .one (.int .u64), [], 0⟩),
  (21, ⟨false, .one (.int .i32), [], 0⟩),
  (22, ⟨false, .one (.sl (.one (.int .u8))), [], 5⟩),
  (24, ⟨false, .one (.sl cPt), [], 141⟩),
  (25, ⟨false, .one (.sl cFent), [], 143⟩),
  (26, ⟨false, .one (.sl cVrow), [], 232⟩),
  (27, ⟨false, .one (.sl (.one (.int .i64))), [], 3⟩),
  (28, ⟨true, cVtab, [(26, 0), (27, 1)], 0⟩),
  (29, ⟨true, cVtab, [(26, 0), (27, 1)], 0⟩),
  (30, ⟨true, cBridge, [(3, 0), (9, 1), (24, 2), (25, 3), (29, 4), (3, 6), (3, 7), (3, 8), (3, 9), (3, 10)], 0⟩),
  (31, ⟨true, cBridge, [(3, 0), (9, 1), (24, 2), (25, 3), (29, 4), (3, 6), (3, 7), (3, 8), (3, 9), (3, 10)], 0⟩),
  (35, ⟨false, .one (.sl cBind), [], 43⟩),
  (36, ⟨true, cPdu, [(3, 0), (3, 1), (3, 2), (3, 3), (35, 4)], 0⟩),
  (37, ⟨true, cPdu, [(3, 0), (3, 1), (3, 2), (3, 3), (35, 4)], 0⟩),
  (40, ⟨true, cVal, [(3, 0), (3, 1), (9, 2), (27, 3)], 0⟩),
  (41, ⟨true, cVal, [(3, 0), (3, 1), (9, 2), (27, 3)], 0⟩),
  (42, ⟨true, cBind, [(27, 0), (41, 1)], 0⟩),
  (43, ⟨true, cBind, [(27, 0), (41, 1)], 0⟩),
  (65, ⟨false, .one (.sl cJob), [], 72⟩),
  (66, ⟨true, cAgent, [(31, 0), (9, 11), (65, 12), (3, 13), (3, 14)], 0⟩),
  (67, ⟨true, cAgent, [(31, 0), (9, 11), (65, 12), (3, 13), (3, 14)], 0⟩),
  (71, ⟨true, cJob, [(3, 0), (22, 1), (3, 2), (37, 3), (31, 8), (3, 19), (3, 20)], 0⟩),
  (72, ⟨true, cJob, [(3, 0), (22, 1), (3, 2), (37, 3), (31, 8), (3, 19), (3, 20)], 0⟩),
  (74, ⟨false, .one (.sl (.cons (.int .i64) (.cons (.int .i64) (.cons (.int .i64) (.cons (.int .i64) (.cons (.int .i64) (.one (.sl cBind)))))))), [], 78⟩),
  (77, ⟨true, .cons (.int .i64) (.cons (.int .i64) (.cons (.int .i64) (.cons (.int .i64) (.cons (.int .i64) (.one (.sl cBind)))))), [(3, 0), (37, 1)], 0⟩),
  (78, ⟨true, .cons (.int .i64) (.cons (.int .i64) (.cons (.int .i64) (.cons (.int .i64) (.cons (.int .i64) (.one (.sl cBind)))))), [(3, 0), (37, 1)], 0⟩),
  (79, ⟨false, .one (.sl cPt), [], 261⟩),
  (80, ⟨false, .one (.sl cFent), [], 263⟩),
  (81, ⟨false, .one (.sl cVrow), [], 326⟩),
  (82, ⟨true, cVtab, [(81, 0), (27, 1)], 0⟩),
  (83, ⟨true, cVtab, [(81, 0), (27, 1)], 0⟩),
  (84, ⟨true, cBridge, [(3, 0), (9, 1), (79, 2), (80, 3), (83, 4), (3, 6), (3, 7), (3, 8), (3, 9), (3, 10)], 0⟩),
  (85, ⟨true, cBridge, [(3, 0), (9, 1), (79, 2), (80, 3), (83, 4), (3, 6), (3, 7), (3, 8), (3, 9), (3, 10)], 0⟩),
  (86, ⟨false, .one (.sl cBind), [], 166⟩),
  (95, ⟨false, .one (.sl cBridge), [], 85⟩),
  (96, ⟨false, .one (.sl (.cons (.int .i64) (.cons (.int .i64) (.cons (.int .i64) (.one (.int .i64)))))), [], 272⟩),
  (97, ⟨false, .one (.sl (.cons (.int .i64) (.cons .bool (.cons (.int .i64) (.cons (.int .i64) (.cons (.int .i64) (.cons (.int .i64) (.one (.int .i64))))))))), [], 275⟩),
  (98, ⟨true, .cons (.sl cBridge) (.cons (.sl (.cons (.int .i64) (.cons (.int .i64) (.cons (.int .i64) (.one (.int .i64)))))) (.one (.sl (.cons (.int .i64) (.cons .bool (.cons (.int .i64) (.cons (.int .i64) (.cons (.int .i64) (.cons (.int .i64) (.one (.int .i64))))))))))), [(95, 0), (96, 1), (97, 2)], 0⟩),
  (99, ⟨true, .cons (.sl cBridge) (.cons (.sl (.cons (.int .i64) (.cons (.int .i64) (.cons (.int .i64) (.one (.int .i64)))))) (.one (.sl (.cons (.int .i64) (.cons .bool (.cons (.int .i64) (.cons (.int .i64) (.cons (.int .i64) (.cons (.int .i64) (.one (.int .i64))))))))))), [(95, 0), (96, 1), (97, 2)], 0⟩),
  (102, ⟨false, .one (.sl cBridge), [], 31⟩),
  (103, ⟨false, .one (.sl (.cons (.int .i64) (.cons (.int .i64) (.cons (.int .i64) (.one (.int .i64)))))), [], 202⟩),
  (104, ⟨false, .one (.sl (.cons (.int .i64) (.cons .bool (.cons (.int .i64) (.cons (.int .i64) (.cons (.int .i64) (.cons (.int .i64) (.one (.int .i64))))))))), [], 199⟩),
  (105, ⟨true, .cons (.sl cBridge) (.cons (.sl (.cons (.int .i64) (.cons (.int .i64) (.cons (.int .i64) (.one (.int .i64)))))) (.one (.sl (.cons (.int .i64) (.cons .bool (.cons (.int .i64) (.cons (.int .i64) (.cons (.int .i64) (.cons (.int .i64) (.one (.int .i64))))))))))), [(102, 0), (103, 1), (104, 2)], 0⟩),
  (106, ⟨true, .cons (.sl cBridge) (.cons (.sl (.cons (.int .i64) (.cons (.int .i64) (.cons (.int .i64) (.one (.int .i64)))))) (.one (.sl (.cons (.int .i64) (.cons .bool (.cons (.int .i64) (.cons (.int .i64) (.cons (.int .i64) (.cons (.int .i64) (.one (.int .i64))))))))))), [(102, 0), (103, 1), (104, 2)], 0⟩),
  (110, ⟨false, .one (.sl cJob), [], 282⟩),
  (111, ⟨true, cAgent, [(85, 0), (9, 11), (110, 12), (3, 13), (3, 14)], 0⟩),
  (112, ⟨true, cAgent, [(85, 0), (9, 11), (110, 12), (3, 13), (3, 14)], 0⟩),
  (138, ⟨true, cVec, [(3, 0), (3, 1), (3, 2), (3, 3), (3, 4)], 0⟩),
  (139, ⟨true, cVec, [(3, 0), (3, 1), (3, 2), (3, 3), (3, 4)], 0⟩),
  (140, ⟨true, cPt, [(4, 0), (3, 1), (4, 2), (139, 3)], 0⟩),
  (141, ⟨true, cPt, [(4, 0), (3, 1), (4, 2), (139, 3)], 0⟩),
  (142, ⟨true, cFent, [(3, 0), (3, 1), (3, 2), (3, 3), (4, 4)], 0⟩),
  (143, ⟨true, cFent, [(3, 0), (3, 1), (3, 2), (3, 3), (4, 4)], 0⟩),
  (164, ⟨true, cVal, [(3, 0), (3, 1), (9, 2), (27, 3)], 0⟩),
  (165, ⟨true, cBind, [(27, 0), (164, 1)], 0⟩),
  (166, ⟨true, cBind, [(27, 0), (164, 1)], 0⟩),
  (198, ⟨true, .cons (.int .i64) (.cons .bool (.cons (.int .i64) (.cons (.int .i64) (.cons (.int .i64) (.cons (.int .i64) (.one (.int .i64))))))), [(3, 0), (4, 1), (139, 2)], 0⟩),
  (199, ⟨true, .cons (.int .i64) (.cons .bool (.cons (.int .i64) (.cons (.int .i64) (.cons (.int .i64) (.cons (.int .i64) (.one (.int .i64))))))), [(3, 0), (4, 1), (139, 2)], 0⟩),
  (201, ⟨true, .cons (.int .i64) (.cons (.int .i64) (.cons (.int .i64) (.one (.int .i64)))), [(3, 0), (3, 1), (3, 2), (3, 3)], 0⟩),
  (202, ⟨true, .cons (.int .i64) (.cons (.int .i64) (.cons (.int .i64) (.one (.int .i64)))), [(3, 0), (3, 1), (3, 2), (3, 3)], 0⟩),
  (210, ⟨true, .cons (.sl (.one (.int .u8))) (.cons (.int .i64) (.one (.int .i64))), [(22, 0), (3, 1), (3, 2)], 0⟩),
  (211, ⟨true, .cons (.sl (.one (.int .u8))) (.cons (.int .i64) (.one (.int .i64))), [(22, 0), (3, 1), (3, 2)], 0⟩),
  (214, ⟨false, .one (.sl (.one .str)), [], 9⟩),
  (226, ⟨false, .one (.sl (.one (.sl (.one (.int .i64))))), [], 27⟩),
  (231, ⟨true, cVrow, [(3, 0), (3, 1), (3, 2)], 0⟩),
  (232, ⟨true, cVrow, [(3, 0), (3, 1), (3, 2)], 0⟩),
  (242, ⟨false, .one (.int .u64), [], 0⟩),
  (259, ⟨true, cVec, [(3, 0), (3, 1), (3, 2), (3, 3), (3, 4)], 0⟩),
  (260, ⟨true, cPt, [(4, 0), (3, 1), (4, 2), (259, 3)], 0⟩),
  (261, ⟨true, cPt, [(4, 0), (3, 1), (4, 2), (259, 3)], 0⟩),
  (263, ⟨true, cFent, [(3, 0), (3, 1), (3, 2), (3, 3), (4, 4)], 0⟩),
  (272, ⟨true, .cons (.int .i64) (.cons (.int .i64) (.cons (.int .i64) (.one (.int .i64)))), [(3, 0), (3, 1), (3, 2), (3, 3)], 0⟩),
  (274, ⟨true, .cons (.int .i64) (.cons .bool (.cons (.int .i64) (.cons (.int .i64) (.cons (.int .i64) (.cons (.int .i64) (.one (.int .i64))))))), [(3, 0), (4, 1), (259, 2)], 0⟩),
  (275, ⟨true, .cons (.int .i64) (.cons .bool (.cons (.int .i64) (.cons (.int .i64) (.cons (.int .i64) (.cons (.int .i64) (.one (.int .i64))))))), [(3, 0), (4, 1), (259, 2)], 0⟩),
  (279, ⟨true, cPdu, [(3, 0), (3, 1), (3, 2), (3, 3), (86, 4)], 0⟩),
  (280, ⟨true, cPdu, [(3, 0), (3, 1), (3, 2), (3, 3), (86, 4)], 0⟩),
  (281, ⟨true, cJob, [(3, 0), (22, 1), (3, 2), (280, 3), (85, 8), (3, 19), (3, 20)], 0⟩),
  (282, ⟨true, cJob, [(3, 0), (22, 1), (3, 2), (280, 3), (85, 8), (3, 19), (3, 20)], 0⟩),
  (287, ⟨true, .cons (.sl (.one (.int .u8))) (.cons (.int .i64) (.one .bool)), [(22, 0), (3, 1), (4, 2)], 0⟩),
  (288, ⟨true, .cons (.sl (.one (.int .u8))) (.cons (.int .i64) (.one .bool)), [(22, 0), (3, 1), (4, 2)], 0⟩),
  (299, ⟨false, .one (.sl (.one .bool)), [], 4⟩),
  (326, ⟨true, cVrow, [(3, 0), (3, 1), (3, 2)], 0⟩),
  (337, ⟨true, .cons (.sl (.one (.int .u8))) (.cons (.int .i64) (.one .bool)), [(22, 0), (3, 1), (4, 2)], 0⟩),
  (338, ⟨true, .cons (.sl (.one (.int .u8))) (.cons (.int .i64) (.one .bool)), [(22, 0), (3, 1), (4, 2)], 0⟩),
  (345, ⟨true, .cons (.int .i64) (.one (.int .i64)), [(3, 0), (3, 1)], 0⟩),
  (346, ⟨true, .cons (.int .i64) (.one (.int .i64)), [(3, 0), (3, 1)], 0⟩),
  (364, ⟨false, .one (.int .i8), [], 0⟩),
  (374, ⟨false, .one (.int .u32), [], 0⟩),
  (375, ⟨false, .one (.int .u8), [], 0⟩),
  (376, ⟨false, .one (.int .u8), [], 0⟩),
  (379, ⟨false, .one (.int .i32), [], 0⟩),
  (380, ⟨false, .one (.int .i32), [], 0⟩)]
theorem tisT : Tis Tryz.prog tis := Tis.of_all (by kernel_rfl)
theorem tisE : Eqs Tryz.prog tis := Eqs.of_all (by kernel_rfl)
theorem tisD : Deep Tryz.prog tis := Deep.of_all (by kernel_rfl)
theorem mixed : Tryz.prog.follows .mixedOrders = true := by kernel_rfl
def codeOf (fn : Func) : Code := match fn.body with | some c => c | none => .skip
theorem g_0 : Good Tryz.prog ⟨tis, [], [], false⟩ := ⟨tisT, tisE, (fun f F h => by cases h), (fun f M h => by cases h), (fun h => by cases h)⟩
noncomputable def impl_copyFdb (l0 : List Fent) : Option (List Fent) :=
  (app [] l0).bind fun zs4 =>
  some zs4
noncomputable def F_impl_copyFdb : Fn := ⟨[.val false (.one (.sl cFent)) false], [.val false (.one (.sl cFent)) true], fun a => impl_copyFdb a⟩
def a_impl_copyFdb : List (Nat × LoopAnn) := []
theorem e_impl_copyFdb : fnDen ⟨tis, [], [], false⟩ a_impl_copyFdb Tryz.f192 (codeOf Tryz.f192) [.val false (.one (.sl cFent)) false] [.val false (.one (.sl cFent)) true] = fun a => impl_copyFdb a := by kernel_rfl
theorem m_impl_copyFdb : Meets Tryz.prog 192 F_impl_copyFdb := by
  have h := meets_of (ann := a_impl_copyFdb) (ps := [.val false (.one (.sl cFent)) false]) (rs := [.val false (.one (.sl cFent)) true]) g_0 mixed Tryz.func192 (by kernel_rfl) (by kernel_rfl : Tryz.f192.body = some (codeOf Tryz.f192))
  rw [e_impl_copyFdb] at h
  exact h
noncomputable def fns_192 : List (FuncId × Fn) := (192, F_impl_copyFdb) :: []
theorem g_192 : Good Tryz.prog ⟨tis, fns_192, [], false⟩ := g_0.cons m_impl_copyFdb
noncomputable def impl_copyInts (l0 : List Int) : Option (List Int) :=
  (app [] l0).bind fun zs4 =>
  some zs4
noncomputable def F_impl_copyInts : Fn := ⟨[.val false (.one (.sl (.one (.int .i64)))) false], [.val false (.one (.sl (.one (.int .i64)))) true], fun a => impl_copyInts a⟩
def a_impl_copyInts : List (Nat × LoopAnn) := []
theorem e_impl_copyInts : fnDen ⟨tis, fns_192, [], false⟩ a_impl_copyInts Tryz.f82 (codeOf Tryz.f82) [.val false (.one (.sl (.one (.int .i64)))) false] [.val false (.one (.sl (.one (.int .i64)))) true] = fun a => impl_copyInts a := by kernel_rfl
theorem m_impl_copyInts : Meets Tryz.prog 82 F_impl_copyInts := by
  have h := meets_of (ann := a_impl_copyInts) (ps := [.val false (.one (.sl (.one (.int .i64)))) false]) (rs := [.val false (.one (.sl (.one (.int .i64)))) true]) g_192 mixed Tryz.func82 (by kernel_rfl) (by kernel_rfl : Tryz.f82.body = some (codeOf Tryz.f82))
  rw [e_impl_copyInts] at h
  exact h
noncomputable def fns_82 : List (FuncId × Fn) := (82, F_impl_copyInts) :: fns_192
theorem g_82 : Good Tryz.prog ⟨tis, fns_82, [], false⟩ := g_192.cons m_impl_copyInts
noncomputable def impl_copyVtab (v0 : Vtab) : Option Vtab :=
  (app [] v0.1).bind fun zs5 =>
  (impl_copyInts v0.2).bind fun t8 =>
  some (zs5, t8)
noncomputable def F_impl_copyVtab : Fn := ⟨[.val true cVtab false], [.val true cVtab true], fun a => impl_copyVtab a⟩
def a_impl_copyVtab : List (Nat × LoopAnn) := []
theorem e_impl_copyVtab : fnDen ⟨tis, fns_82, [], false⟩ a_impl_copyVtab Tryz.f193 (codeOf Tryz.f193) [.val true cVtab false] [.val true cVtab true] = fun a => impl_copyVtab a := by kernel_rfl
theorem m_impl_copyVtab : Meets Tryz.prog 193 F_impl_copyVtab := by
  have h := meets_of (ann := a_impl_copyVtab) (ps := [.val true cVtab false]) (rs := [.val true cVtab true]) g_82 mixed Tryz.func193 (by kernel_rfl) (by kernel_rfl : Tryz.f193.body = some (codeOf Tryz.f193))
  rw [e_impl_copyVtab] at h
  exact h
noncomputable def fns_193 : List (FuncId × Fn) := (193, F_impl_copyVtab) :: fns_82
theorem g_193 : Good Tryz.prog ⟨tis, fns_193, [], false⟩ := g_82.cons m_impl_copyVtab
noncomputable def impl_copyBridge (b0 : Bridge) : Option Bridge :=
  (app [] b0.2.2.1).bind fun zs5 =>
  (impl_copyFdb b0.2.2.2.1).bind fun t9 =>
  (impl_copyVtab (b0.2.2.2.2.1, b0.2.2.2.2.2.1)).bind fun t12 =>
  some (b0.1, b0.2.1, zs5, t9, t12.1, t12.2, b0.2.2.2.2.2.2.1, b0.2.2.2.2.2.2.2.1, b0.2.2.2.2.2.2.2.2.1, b0.2.2.2.2.2.2.2.2.2.1, b0.2.2.2.2.2.2.2.2.2.2)
noncomputable def F_impl_copyBridge : Fn := ⟨[.val true cBridge false], [.val true cBridge true], fun a => impl_copyBridge a⟩
def a_impl_copyBridge : List (Nat × LoopAnn) := []
theorem e_impl_copyBridge : fnDen ⟨tis, fns_193, [], false⟩ a_impl_copyBridge Tryz.f80 (codeOf Tryz.f80) [.val true cBridge false] [.val true cBridge true] = fun a => impl_copyBridge a := by kernel_rfl
theorem m_impl_copyBridge : Meets Tryz.prog 80 F_impl_copyBridge := by
  have h := meets_of (ann := a_impl_copyBridge) (ps := [.val true cBridge false]) (rs := [.val true cBridge true]) g_193 mixed Tryz.func80 (by kernel_rfl) (by kernel_rfl : Tryz.f80.body = some (codeOf Tryz.f80))
  rw [e_impl_copyBridge] at h
  exact h
noncomputable def fns_80 : List (FuncId × Fn) := (80, F_impl_copyBridge) :: fns_193
theorem g_80 : Good Tryz.prog ⟨tis, fns_80, [], false⟩ := g_193.cons m_impl_copyBridge
noncomputable def impl_copyBytes (b0 : List Int) : Option (List Int) :=
  (app [] b0).bind fun zs4 =>
  some zs4
noncomputable def F_impl_copyBytes : Fn := ⟨[.val false (.one (.sl (.one (.int .u8)))) false], [.val false (.one (.sl (.one (.int .u8)))) true], fun a => impl_copyBytes a⟩
def a_impl_copyBytes : List (Nat × LoopAnn) := []
theorem e_impl_copyBytes : fnDen ⟨tis, fns_80, [], false⟩ a_impl_copyBytes Tryz.f111 (codeOf Tryz.f111) [.val false (.one (.sl (.one (.int .u8)))) false] [.val false (.one (.sl (.one (.int .u8)))) true] = fun a => impl_copyBytes a := by kernel_rfl
theorem m_impl_copyBytes : Meets Tryz.prog 111 F_impl_copyBytes := by
  have h := meets_of (ann := a_impl_copyBytes) (ps := [.val false (.one (.sl (.one (.int .u8)))) false]) (rs := [.val false (.one (.sl (.one (.int .u8)))) true]) g_80 mixed Tryz.func111 (by kernel_rfl) (by kernel_rfl : Tryz.f111.body = some (codeOf Tryz.f111))
  rw [e_impl_copyBytes] at h
  exact h
noncomputable def fns_111 : List (FuncId × Fn) := (111, F_impl_copyBytes) :: fns_80
theorem g_111 : Good Tryz.prog ⟨tis, fns_111, [], false⟩ := g_80.cons m_impl_copyBytes
noncomputable def impl_copyVal (v0 : Val) : Option Val :=
  (impl_copyInts v0.2.2.2).bind fun t5 =>
  some (v0.1, v0.2.1, v0.2.2.1, t5)
noncomputable def F_impl_copyVal : Fn := ⟨[.val true cVal false], [.val true cVal true], fun a => impl_copyVal a⟩
def a_impl_copyVal : List (Nat × LoopAnn) := []
theorem e_impl_copyVal : fnDen ⟨tis, fns_111, [], false⟩ a_impl_copyVal Tryz.f197 (codeOf Tryz.f197) [.val true cVal false] [.val true cVal true] = fun a => impl_copyVal a := by kernel_rfl
theorem m_impl_copyVal : Meets Tryz.prog 197 F_impl_copyVal := by
  have h := meets_of (ann := a_impl_copyVal) (ps := [.val true cVal false]) (rs := [.val true cVal true]) g_111 mixed Tryz.func197 (by kernel_rfl) (by kernel_rfl : Tryz.f197.body = some (codeOf Tryz.f197))
  rw [e_impl_copyVal] at h
  exact h
noncomputable def fns_197 : List (FuncId × Fn) := (197, F_impl_copyVal) :: fns_111
theorem g_197 : Good Tryz.prog ⟨tis, fns_197, [], false⟩ := g_111.cons m_impl_copyVal
noncomputable def impl_copyBinds_l0 (l0 : List Bind) (t8 : Int) (out3 : List Bind) : Option ((Int × List Bind) ⊕ (List Bind)) :=
  cond (decide (t8 < (l0.length : Int)))
    ((at? l0 t8).bind fun x10 =>
    (impl_copyInts x10.1).bind fun t15 =>
    (impl_copyVal x10.2).bind fun t18 =>
    (app out3 [(t15, t18.1, t18.2.1, t18.2.2.1, t18.2.2.2)]).bind fun zs21 =>
    some (.inl (w64 (t8 + 1), zs21)))
    (some (.inr out3))
noncomputable def impl_copyBinds (l0 : List Bind) : Option (List Bind) :=
  (loop (fun z => impl_copyBinds_l0 l0 z.1 z.2) (0, [])).bind fun d =>
  some d
noncomputable def F_impl_copyBinds : Fn := ⟨[.val false (.one (.sl cBind)) false], [.val false (.one (.sl cBind)) true], fun a => impl_copyBinds a⟩
def a_impl_copyBinds : List (Nat × LoopAnn) := [(0, ⟨⟨[(3, false, [.own 1000000000]), (8, false, [.dat (.int .i64)])], [(1000000000, .root cBind true)]⟩,
    ⟨[(3, false, [.own 1000000300])], [(1000000300, .root cBind true)]⟩, none⟩)]
theorem e_impl_copyBinds : fnDen ⟨tis, fns_197, [], false⟩ a_impl_copyBinds Tryz.f84 (codeOf Tryz.f84) [.val false (.one (.sl cBind)) false] [.val false (.one (.sl cBind)) true] = fun a => impl_copyBinds a := by kernel_rfl
theorem m_impl_copyBinds : Meets Tryz.prog 84 F_impl_copyBinds := by
  have h := meets_of (ann := a_impl_copyBinds) (ps := [.val false (.one (.sl cBind)) false]) (rs := [.val false (.one (.sl cBind)) true]) g_197 mixed Tryz.func84 (by kernel_rfl) (by kernel_rfl : Tryz.f84.body = some (codeOf Tryz.f84))
  rw [e_impl_copyBinds] at h
  exact h
noncomputable def fns_84 : List (FuncId × Fn) := (84, F_impl_copyBinds) :: fns_197
theorem g_84 : Good Tryz.prog ⟨tis, fns_84, [], false⟩ := g_197.cons m_impl_copyBinds
noncomputable def impl_copyPdu (p0 : Pdu) : Option Pdu :=
  (impl_copyBinds p0.2.2.2.2).bind fun t5 =>
  some (p0.1, p0.2.1, p0.2.2.1, p0.2.2.2.1, t5)
noncomputable def F_impl_copyPdu : Fn := ⟨[.val true cPdu false], [.val true cPdu true], fun a => impl_copyPdu a⟩
def a_impl_copyPdu : List (Nat × LoopAnn) := []
theorem e_impl_copyPdu : fnDen ⟨tis, fns_84, [], false⟩ a_impl_copyPdu Tryz.f232 (codeOf Tryz.f232) [.val true cPdu false] [.val true cPdu true] = fun a => impl_copyPdu a := by kernel_rfl
theorem m_impl_copyPdu : Meets Tryz.prog 232 F_impl_copyPdu := by
  have h := meets_of (ann := a_impl_copyPdu) (ps := [.val true cPdu false]) (rs := [.val true cPdu true]) g_84 mixed Tryz.func232 (by kernel_rfl) (by kernel_rfl : Tryz.f232.body = some (codeOf Tryz.f232))
  rw [e_impl_copyPdu] at h
  exact h
noncomputable def fns_232 : List (FuncId × Fn) := (232, F_impl_copyPdu) :: fns_84
theorem g_232 : Good Tryz.prog ⟨tis, fns_232, [], false⟩ := g_84.cons m_impl_copyPdu
noncomputable def impl_copyAgent_l0 (a0 : Agent) (t13 : Int) (jobs3 : List Job) : Option ((Int × List Job) ⊕ (List Job)) :=
  cond (decide (t13 < (a0.2.2.2.2.2.2.2.2.2.2.2.2.1.length : Int)))
    ((at? a0.2.2.2.2.2.2.2.2.2.2.2.2.1 t13).bind fun x15 =>
    (impl_copyBytes x15.2.1).bind fun t19 =>
    (impl_copyPdu (x15.2.2.2.1, x15.2.2.2.2.1, x15.2.2.2.2.2.1, x15.2.2.2.2.2.2.1, x15.2.2.2.2.2.2.2.1)).bind fun t22 =>
    (impl_copyBridge (x15.2.2.2.2.2.2.2.2.1, x15.2.2.2.2.2.2.2.2.2.1, x15.2.2.2.2.2.2.2.2.2.2.1, x15.2.2.2.2.2.2.2.2.2.2.2.1, x15.2.2.2.2.2.2.2.2.2.2.2.2.1, x15.2.2.2.2.2.2.2.2.2.2.2.2.2.1, x15.2.2.2.2.2.2.2.2.2.2.2.2.2.2.1, x15.2.2.2.2.2.2.2.2.2.2.2.2.2.2.2.1, x15.2.2.2.2.2.2.2.2.2.2.2.2.2.2.2.2.1, x15.2.2.2.2.2.2.2.2.2.2.2.2.2.2.2.2.2.1, x15.2.2.2.2.2.2.2.2.2.2.2.2.2.2.2.2.2.2.1)).bind fun t25 =>
    (app jobs3 [(x15.1, t19, x15.2.2.1, t22.1, t22.2.1, t22.2.2.1, t22.2.2.2.1, t22.2.2.2.2, t25.1, t25.2.1, t25.2.2.1, t25.2.2.2.1, t25.2.2.2.2.1, t25.2.2.2.2.2.1, t25.2.2.2.2.2.2.1, t25.2.2.2.2.2.2.2.1, t25.2.2.2.2.2.2.2.2.1, t25.2.2.2.2.2.2.2.2.2.1, t25.2.2.2.2.2.2.2.2.2.2, x15.2.2.2.2.2.2.2.2.2.2.2.2.2.2.2.2.2.2.2.1, x15.2.2.2.2.2.2.2.2.2.2.2.2.2.2.2.2.2.2.2.2)]).bind fun zs32 =>
    some (.inl (w64 (t13 + 1), zs32)))
    (some (.inr jobs3))
noncomputable def impl_copyAgent (a0 : Agent) : Option Agent :=
  (impl_copyBridge (a0.1, a0.2.1, a0.2.2.1, a0.2.2.2.1, a0.2.2.2.2.1, a0.2.2.2.2.2.1, a0.2.2.2.2.2.2.1, a0.2.2.2.2.2.2.2.1, a0.2.2.2.2.2.2.2.2.1, a0.2.2.2.2.2.2.2.2.2.1, a0.2.2.2.2.2.2.2.2.2.2.1)).bind fun t8 =>
  (loop (fun z => impl_copyAgent_l0 a0 z.1 z.2) (0, [])).bind fun d =>
  some (t8.1, t8.2.1, t8.2.2.1, t8.2.2.2.1, t8.2.2.2.2.1, t8.2.2.2.2.2.1, t8.2.2.2.2.2.2.1, t8.2.2.2.2.2.2.2.1, t8.2.2.2.2.2.2.2.2.1, t8.2.2.2.2.2.2.2.2.2.1, t8.2.2.2.2.2.2.2.2.2.2, a0.2.2.2.2.2.2.2.2.2.2.2.1, d, a0.2.2.2.2.2.2.2.2.2.2.2.2.2.1, a0.2.2.2.2.2.2.2.2.2.2.2.2.2.2)
noncomputable def F_impl_copyAgent : Fn := ⟨[.val true cAgent false], [.val true cAgent true], fun a => impl_copyAgent a⟩
def a_impl_copyAgent : List (Nat × LoopAnn) := [(0, ⟨⟨[(3, false, [.own 1000000000]), (13, false, [.dat (.int .i64)])], [(1000000000, .root cJob true)]⟩,
    ⟨[(3, false, [.own 1000000300])], [(1000000300, .root cJob true)]⟩, none⟩)]
theorem e_impl_copyAgent : fnDen ⟨tis, fns_232, [], false⟩ a_impl_copyAgent Tryz.f108 (codeOf Tryz.f108) [.val true cAgent false] [.val true cAgent true] = fun a => impl_copyAgent a := by kernel_rfl
theorem m_impl_copyAgent : Meets Tryz.prog 108 F_impl_copyAgent := by
  have h := meets_of (ann := a_impl_copyAgent) (ps := [.val true cAgent false]) (rs := [.val true cAgent true]) g_232 mixed Tryz.func108 (by kernel_rfl) (by kernel_rfl : Tryz.f108.body = some (codeOf Tryz.f108))
  rw [e_impl_copyAgent] at h
  exact h
noncomputable def fns_108 : List (FuncId × Fn) := (108, F_impl_copyAgent) :: fns_232
theorem g_108 : Good Tryz.prog ⟨tis, fns_108, [], false⟩ := g_232.cons m_impl_copyAgent
noncomputable def impl_in (n0 : Int) (low1 : Int) (high2 : Int) : Option Bool :=
  (cond (decide (n0 ≥ low1)) (some (decide (n0 ≤ high2))) (some false)).bind fun t14 =>
  some t14
noncomputable def F_impl_in : Fn := ⟨[.val false (.one (.int .i64)) false, .val false (.one (.int .i64)) false, .val false (.one (.int .i64)) false], [.val false (.one .bool) true], fun a => impl_in a.1 a.2.1 a.2.2⟩
def a_impl_in : List (Nat × LoopAnn) := []
theorem e_impl_in : fnDen ⟨tis, fns_108, [], false⟩ a_impl_in Tryz.f85 (codeOf Tryz.f85) [.val false (.one (.int .i64)) false, .val false (.one (.int .i64)) false, .val false (.one (.int .i64)) false] [.val false (.one .bool) true] = fun a => impl_in a.1 a.2.1 a.2.2 := by kernel_rfl
theorem m_impl_in : Meets Tryz.prog 85 F_impl_in := by
  have h := meets_of (ann := a_impl_in) (ps := [.val false (.one (.int .i64)) false, .val false (.one (.int .i64)) false, .val false (.one (.int .i64)) false]) (rs := [.val false (.one .bool) true]) g_108 mixed Tryz.func85 (by kernel_rfl) (by kernel_rfl : Tryz.f85.body = some (codeOf Tryz.f85))
  rw [e_impl_in] at h
  exact h
noncomputable def fns_85 : List (FuncId × Fn) := (85, F_impl_in) :: fns_108
theorem g_85 : Good Tryz.prog ⟨tis, fns_85, [], false⟩ := g_108.cons m_impl_in
noncomputable def impl_allPorts (ports0 : Int) : Option Int :=
  (shl .i64 1 ports0).bind fun t4 =>
  some (w64 (t4 - 1))
noncomputable def F_impl_allPorts : Fn := ⟨[.val false (.one (.int .i64)) false], [.val false (.one (.int .i64)) true], fun a => impl_allPorts a⟩
def a_impl_allPorts : List (Nat × LoopAnn) := []
theorem e_impl_allPorts : fnDen ⟨tis, fns_85, [], false⟩ a_impl_allPorts Tryz.f206 (codeOf Tryz.f206) [.val false (.one (.int .i64)) false] [.val false (.one (.int .i64)) true] = fun a => impl_allPorts a := by kernel_rfl
theorem m_impl_allPorts : Meets Tryz.prog 206 F_impl_allPorts := by
  have h := meets_of (ann := a_impl_allPorts) (ps := [.val false (.one (.int .i64)) false]) (rs := [.val false (.one (.int .i64)) true]) g_85 mixed Tryz.func206 (by kernel_rfl) (by kernel_rfl : Tryz.f206.body = some (codeOf Tryz.f206))
  rw [e_impl_allPorts] at h
  exact h
noncomputable def fns_206 : List (FuncId × Fn) := (206, F_impl_allPorts) :: fns_85
theorem g_206 : Good Tryz.prog ⟨tis, fns_206, [], false⟩ := g_85.cons m_impl_allPorts
noncomputable def impl_RowAt_l0 (v0 : Vtab) (id1 : Int) (t10 : Int) : Option (Int ⊕ (Unit ⊕ Int)) :=
  cond (decide (t10 < (v0.1.length : Int)))
    ((at? v0.1 t10).bind fun x13 =>
    cond (x13.1 == id1) (some (.inr (.inr t10))) (some (.inl (w64 (t10 + 1)))))
    (some (.inr (.inl ())))
noncomputable def impl_RowAt (v0 : Vtab) (id1 : Int) : Option Int :=
  (loop (fun z => impl_RowAt_l0 v0 id1 z) 0).bind (Sum.elim (fun d =>
    some (-1)) (fun r => some r))
noncomputable def F_impl_RowAt : Fn := ⟨[.val true cVtab false, .val false (.one (.int .i64)) false], [.val false (.one (.int .i64)) true], fun a => impl_RowAt a.1 a.2⟩
def a_impl_RowAt : List (Nat × LoopAnn) := [(0, ⟨⟨[(10, false, [.dat (.int .i64)])], []⟩,
    ⟨[], []⟩, some ⟨[(4, false, [.dat (.int .i64)])], []⟩⟩)]
theorem e_impl_RowAt : fnDen ⟨tis, fns_206, [], false⟩ a_impl_RowAt Tryz.f207 (codeOf Tryz.f207) [.val true cVtab false, .val false (.one (.int .i64)) false] [.val false (.one (.int .i64)) true] = fun a => impl_RowAt a.1 a.2 := by kernel_rfl
theorem m_impl_RowAt : Meets Tryz.prog 207 F_impl_RowAt := by
  have h := meets_of (ann := a_impl_RowAt) (ps := [.val true cVtab false, .val false (.one (.int .i64)) false]) (rs := [.val false (.one (.int .i64)) true]) g_206 mixed Tryz.func207 (by kernel_rfl) (by kernel_rfl : Tryz.f207.body = some (codeOf Tryz.f207))
  rw [e_impl_RowAt] at h
  exact h
noncomputable def fns_207 : List (FuncId × Fn) := (207, F_impl_RowAt) :: fns_206
theorem g_207 : Good Tryz.prog ⟨tis, fns_207, [], false⟩ := g_206.cons m_impl_RowAt
noncomputable def impl_VtabOk_l0 (p0 : Vtab) (i1 : Int) (t28 : Int) : Option (Int ⊕ (Unit ⊕ Bool)) :=
  cond (decide (t28 < (p0.1.length : Int)))
    ((at? p0.1 t28).bind fun x31 =>
    (impl_in x31.1 1 99).bind fun t35 =>
    (cond (!t35)
      (some true)
      ((cond (decide (t28 > 0))
        ((at? p0.1 (w64 (t28 - 1))).bind fun x45 =>
        some (decide (x45.1 ≥ x31.1)))
        (some false)).bind fun t51 =>
      some t51)).bind fun t52 =>
    (cond t52
      (some true)
      ((impl_allPorts i1).bind fun t57 =>
      (impl_in x31.2.1 0 t57).bind fun t58 =>
      some (!t58))).bind fun t60 =>
    (cond t60 (some true) (some ((bclr .i64 x31.2.2 x31.2.1) != 0))).bind fun t68 =>
    cond t68 (some (.inr (.inr false))) (some (.inl (w64 (t28 + 1)))))
    (some (.inr (.inl ())))
noncomputable def impl_VtabOk_l2 (p0 : Vtab) (t73 : Int) : Option (Int ⊕ (Unit ⊕ Bool)) :=
  cond (decide (t73 < (p0.2.length : Int)))
    ((at? p0.2 t73).bind fun x75 =>
    (impl_RowAt p0 x75).bind fun t79 =>
    cond (decide (t79 < 0)) (some (.inr (.inr false))) (some (.inl (w64 (t73 + 1)))))
    (some (.inr (.inl ())))
noncomputable def impl_VtabOk (p0 : Vtab) (i1 : Int) : Option Bool :=
  (impl_in i1 1 6).bind fun t10 =>
  (cond (!t10) (some true) (some ((p0.2.length : Int) != i1))).bind fun t18 =>
  (cond t18 (some true) (some (decide ((p0.1.length : Int) > 6)))).bind fun t24 =>
  cond t24
    (some false)
    ((loop (fun z => impl_VtabOk_l0 p0 i1 z) 0).bind (Sum.elim (fun d =>
      (loop (fun z => impl_VtabOk_l2 p0 z) 0).bind (Sum.elim (fun d_1 =>
        some true) (fun r => some r))) (fun r_1 => some r_1)))
noncomputable def F_impl_VtabOk : Fn := ⟨[.val true cVtab false, .val false (.one (.int .i64)) false], [.val false (.one .bool) true], fun a => impl_VtabOk a.1 a.2⟩
def a_impl_VtabOk : List (Nat × LoopAnn) := [(0, ⟨⟨[(28, false, [.dat (.int .i64)]), (38, false, [.undef]), (39, false, [.undef]), (40, false, [.undef]), (41, false, [.undef]), (42, false, [.undef]), (43, false, [.undef]), (44, false, [.undef]), (45, false, [.undef]), (46, false, [.undef]), (47, false, [.undef]), (48, false, [.undef]), (49, false, [.undef]), (50, false, [.undef]), (51, false, [.undef]), (54, false, [.undef]), (55, false, [.undef]), (56, false, [.undef]), (57, false, [.undef]), (58, false, [.undef]), (59, false, [.undef]), (62, false, [.undef]), (63, false, [.undef]), (64, false, [.undef]), (65, false, [.undef]), (66, false, [.undef]), (67, false, [.undef])], []⟩,
    ⟨[], []⟩, some ⟨[(4, false, [.dat .bool])], []⟩⟩),
  (2, ⟨⟨[(73, false, [.dat (.int .i64)])], []⟩,
    ⟨[], []⟩, some ⟨[(4, false, [.dat .bool])], []⟩⟩)]
theorem e_impl_VtabOk : fnDen ⟨tis, fns_207, [], false⟩ a_impl_VtabOk Tryz.f91 (codeOf Tryz.f91) [.val true cVtab false, .val false (.one (.int .i64)) false] [.val false (.one .bool) true] = fun a => impl_VtabOk a.1 a.2 := by kernel_rfl
theorem m_impl_VtabOk : Meets Tryz.prog 91 F_impl_VtabOk := by
  have h := meets_of (ann := a_impl_VtabOk) (ps := [.val true cVtab false, .val false (.one (.int .i64)) false]) (rs := [.val false (.one .bool) true]) g_207 mixed Tryz.func91 (by kernel_rfl) (by kernel_rfl : Tryz.f91.body = some (codeOf Tryz.f91))
  rw [e_impl_VtabOk] at h
  exact h
noncomputable def fns_91 : List (FuncId × Fn) := (91, F_impl_VtabOk) :: fns_207
theorem g_91 : Good Tryz.prog ⟨tis, fns_91, [], false⟩ := g_207.cons m_impl_VtabOk
noncomputable def impl_VecOk (v0 : Vec) : Option Bool :=
  (impl_in v0.1 1 99).bind fun t5 =>
  (cond t5
    ((impl_in v0.2.1 0 100000).bind fun t9 =>
    some t9)
    (some false)).bind fun t10 =>
  (cond t10
    ((impl_in v0.2.2.1 0 10).bind fun t14 =>
    some t14)
    (some false)).bind fun t15 =>
  (cond t15
    ((impl_in v0.2.2.2.1 1 99).bind fun t19 =>
    some t19)
    (some false)).bind fun t20 =>
  (cond t20
    ((impl_in v0.2.2.2.2 0 7).bind fun t24 =>
    some t24)
    (some false)).bind fun t25 =>
  some t25
noncomputable def F_impl_VecOk : Fn := ⟨[.val true cVec false], [.val false (.one .bool) true], fun a => impl_VecOk a⟩
def a_impl_VecOk : List (Nat × LoopAnn) := []
theorem e_impl_VecOk : fnDen ⟨tis, fns_91, [], false⟩ a_impl_VecOk Tryz.f163 (codeOf Tryz.f163) [.val true cVec false] [.val false (.one .bool) true] = fun a => impl_VecOk a := by kernel_rfl
theorem m_impl_VecOk : Meets Tryz.prog 163 F_impl_VecOk := by
  have h := meets_of (ann := a_impl_VecOk) (ps := [.val true cVec false]) (rs := [.val false (.one .bool) true]) g_91 mixed Tryz.func163 (by kernel_rfl) (by kernel_rfl : Tryz.f163.body = some (codeOf Tryz.f163))
  rw [e_impl_VecOk] at h
  exact h
noncomputable def fns_163 : List (FuncId × Fn) := (163, F_impl_VecOk) :: fns_91
theorem g_163 : Good Tryz.prog ⟨tis, fns_163, [], false⟩ := g_91.cons m_impl_VecOk
noncomputable def impl_PtOk (p0 : Pt) : Option Bool :=
  (impl_in p0.2.1 1 1000).bind fun t5 =>
  (cond (!t5)
    (some true)
    ((cond p0.2.2.1 (some (!p0.1)) (some false)).bind fun t14 =>
    some t14)).bind fun t15 =>
  cond t15
    (some false)
    (cond p0.2.2.1
      ((impl_VecOk p0.2.2.2).bind fun t20 =>
      some t20)
      (let t2 := p0.2.2.2.1 == 0 && (p0.2.2.2.2.1 == 0 && (p0.2.2.2.2.2.1 == 0 && (p0.2.2.2.2.2.2.1 == 0 && (p0.2.2.2.2.2.2.2 == 0))))
      some t2))
noncomputable def F_impl_PtOk : Fn := ⟨[.val true cPt false], [.val false (.one .bool) true], fun a => impl_PtOk a⟩
def a_impl_PtOk : List (Nat × LoopAnn) := []
theorem e_impl_PtOk : fnDen ⟨tis, fns_163, [], false⟩ a_impl_PtOk Tryz.f100 (codeOf Tryz.f100) [.val true cPt false] [.val false (.one .bool) true] = fun a => impl_PtOk a := by kernel_rfl
theorem m_impl_PtOk : Meets Tryz.prog 100 F_impl_PtOk := by
  have h := meets_of (ann := a_impl_PtOk) (ps := [.val true cPt false]) (rs := [.val false (.one .bool) true]) g_163 mixed Tryz.func100 (by kernel_rfl) (by kernel_rfl : Tryz.f100.body = some (codeOf Tryz.f100))
  rw [e_impl_PtOk] at h
  exact h
noncomputable def fns_100 : List (FuncId × Fn) := (100, F_impl_PtOk) :: fns_163
theorem g_100 : Good Tryz.prog ⟨tis, fns_100, [], false⟩ := g_163.cons m_impl_PtOk
noncomputable def impl_fentOk (e0 : Fent) : Option Bool :=
  (impl_in e0.1 1 99).bind fun t5 =>
  (cond t5
    ((impl_in e0.2.1 1 9999).bind fun t9 =>
    some t9)
    (some false)).bind fun t10 =>
  (cond t10
    ((impl_in e0.2.2.1 0 7).bind fun t14 =>
    some t14)
    (some false)).bind fun t15 =>
  (cond t15
    ((impl_in e0.2.2.2.1 0 4).bind fun t19 =>
    some t19)
    (some false)).bind fun t20 =>
  (cond t20
    ((cond (!e0.2.2.2.2) (some true) (some (e0.2.2.2.1 == 0))).bind fun t29 =>
    some t29)
    (some false)).bind fun t30 =>
  some t30
noncomputable def F_impl_fentOk : Fn := ⟨[.val true cFent false], [.val false (.one .bool) true], fun a => impl_fentOk a⟩
def a_impl_fentOk : List (Nat × LoopAnn) := []
theorem e_impl_fentOk : fnDen ⟨tis, fns_100, [], false⟩ a_impl_fentOk Tryz.f224 (codeOf Tryz.f224) [.val true cFent false] [.val false (.one .bool) true] = fun a => impl_fentOk a := by kernel_rfl
theorem m_impl_fentOk : Meets Tryz.prog 224 F_impl_fentOk := by
  have h := meets_of (ann := a_impl_fentOk) (ps := [.val true cFent false]) (rs := [.val false (.one .bool) true]) g_100 mixed Tryz.func224 (by kernel_rfl) (by kernel_rfl : Tryz.f224.body = some (codeOf Tryz.f224))
  rw [e_impl_fentOk] at h
  exact h
noncomputable def fns_224 : List (FuncId × Fn) := (224, F_impl_fentOk) :: fns_100
theorem g_224 : Good Tryz.prog ⟨tis, fns_224, [], false⟩ := g_100.cons m_impl_fentOk
noncomputable def impl_behind (e0 : Fent) (tag1 : Int) (mac2 : Int) : Option Bool :=
  (cond (decide (e0.1 > tag1))
    (some true)
    ((cond (e0.1 == tag1) (some (decide (e0.2.1 > mac2))) (some false)).bind fun t21 =>
    some t21)).bind fun t22 =>
  some t22
noncomputable def F_impl_behind : Fn := ⟨[.val true cFent false, .val false (.one (.int .i64)) false, .val false (.one (.int .i64)) false], [.val false (.one .bool) true], fun a => impl_behind a.1 a.2.1 a.2.2⟩
def a_impl_behind : List (Nat × LoopAnn) := []
theorem e_impl_behind : fnDen ⟨tis, fns_224, [], false⟩ a_impl_behind Tryz.f225 (codeOf Tryz.f225) [.val true cFent false, .val false (.one (.int .i64)) false, .val false (.one (.int .i64)) false] [.val false (.one .bool) true] = fun a => impl_behind a.1 a.2.1 a.2.2 := by kernel_rfl
theorem m_impl_behind : Meets Tryz.prog 225 F_impl_behind := by
  have h := meets_of (ann := a_impl_behind) (ps := [.val true cFent false, .val false (.one (.int .i64)) false, .val false (.one (.int .i64)) false]) (rs := [.val false (.one .bool) true]) g_224 mixed Tryz.func225 (by kernel_rfl) (by kernel_rfl : Tryz.f225.body = some (codeOf Tryz.f225))
  rw [e_impl_behind] at h
  exact h
noncomputable def fns_225 : List (FuncId × Fn) := (225, F_impl_behind) :: fns_224
theorem g_225 : Good Tryz.prog ⟨tis, fns_225, [], false⟩ := g_224.cons m_impl_behind
noncomputable def impl_FdbOk_l0 (l0 : List Fent) (t7 : Int) : Option (Int ⊕ (Unit ⊕ Bool)) :=
  cond (decide (t7 < (l0.length : Int)))
    ((at? l0 t7).bind fun x10 =>
    (impl_fentOk x10).bind fun t13 =>
    (cond (!t13)
      (some true)
      ((cond (decide (t7 > 0))
        ((at? l0 (w64 (t7 - 1))).bind fun x23 =>
        (at? l0 (w64 (t7 - 1))).bind fun x29 =>
        (impl_behind x10 x23.1 x29.2.1).bind fun t32 =>
        some (!t32))
        (some false)).bind fun t34 =>
      some t34)).bind fun t35 =>
    cond t35 (some (.inr (.inr false))) (some (.inl (w64 (t7 + 1)))))
    (some (.inr (.inl ())))
noncomputable def impl_FdbOk (l0 : List Fent) : Option Bool :=
  (loop (fun z => impl_FdbOk_l0 l0 z) 0).bind (Sum.elim (fun d =>
    let t2 := decide ((l0.length : Int) ≤ 12)
    some t2) (fun r => some r))
noncomputable def F_impl_FdbOk : Fn := ⟨[.val false (.one (.sl cFent)) false], [.val false (.one .bool) true], fun a => impl_FdbOk a⟩
def a_impl_FdbOk : List (Nat × LoopAnn) := [(0, ⟨⟨[(7, false, [.dat (.int .i64)]), (16, false, [.undef]), (17, false, [.undef]), (18, false, [.undef]), (19, false, [.undef]), (20, false, [.undef]), (21, false, [.undef]), (22, false, [.undef]), (23, false, [.undef]), (24, false, [.undef]), (25, false, [.undef]), (26, false, [.undef]), (27, false, [.undef]), (28, false, [.undef]), (29, false, [.undef]), (30, false, [.undef]), (31, false, [.undef]), (32, false, [.undef]), (33, false, [.undef]), (34, false, [.undef])], []⟩,
    ⟨[], []⟩, some ⟨[(2, false, [.dat .bool])], []⟩⟩)]
theorem e_impl_FdbOk : fnDen ⟨tis, fns_225, [], false⟩ a_impl_FdbOk Tryz.f101 (codeOf Tryz.f101) [.val false (.one (.sl cFent)) false] [.val false (.one .bool) true] = fun a => impl_FdbOk a := by kernel_rfl
theorem m_impl_FdbOk : Meets Tryz.prog 101 F_impl_FdbOk := by
  have h := meets_of (ann := a_impl_FdbOk) (ps := [.val false (.one (.sl cFent)) false]) (rs := [.val false (.one .bool) true]) g_225 mixed Tryz.func101 (by kernel_rfl) (by kernel_rfl : Tryz.f101.body = some (codeOf Tryz.f101))
  rw [e_impl_FdbOk] at h
  exact h
noncomputable def fns_101 : List (FuncId × Fn) := (101, F_impl_FdbOk) :: fns_225
theorem g_101 : Good Tryz.prog ⟨tis, fns_101, [], false⟩ := g_225.cons m_impl_FdbOk
noncomputable def impl_isCount (n0 : Int) : Option Bool :=
  (impl_in n0 0 1000000).bind fun t4 =>
  some t4
noncomputable def F_impl_isCount : Fn := ⟨[.val false (.one (.int .i64)) false], [.val false (.one .bool) true], fun a => impl_isCount a⟩
def a_impl_isCount : List (Nat × LoopAnn) := []
theorem e_impl_isCount : fnDen ⟨tis, fns_101, [], false⟩ a_impl_isCount Tryz.f102 (codeOf Tryz.f102) [.val false (.one (.int .i64)) false] [.val false (.one .bool) true] = fun a => impl_isCount a := by kernel_rfl
theorem m_impl_isCount : Meets Tryz.prog 102 F_impl_isCount := by
  have h := meets_of (ann := a_impl_isCount) (ps := [.val false (.one (.int .i64)) false]) (rs := [.val false (.one .bool) true]) g_101 mixed Tryz.func102 (by kernel_rfl) (by kernel_rfl : Tryz.f102.body = some (codeOf Tryz.f102))
  rw [e_impl_isCount] at h
  exact h
noncomputable def fns_102 : List (FuncId × Fn) := (102, F_impl_isCount) :: fns_101
theorem g_102 : Good Tryz.prog ⟨tis, fns_102, [], false⟩ := g_101.cons m_impl_isCount
noncomputable def impl_BridgeOk_l0 (p0 : Bridge) (t8 : Int) : Option (Int ⊕ (Unit ⊕ Bool)) :=
  cond (decide (t8 < (p0.2.2.1.length : Int)))
    ((at? p0.2.2.1 t8).bind fun x10 =>
    (impl_PtOk x10).bind fun t13 =>
    cond (!t13) (some (.inr (.inr false))) (some (.inl (w64 (t8 + 1)))))
    (some (.inr (.inl ())))
noncomputable def impl_BridgeOk (p0 : Bridge) : Option Bool :=
  (loop (fun z => impl_BridgeOk_l0 p0 z) 0).bind (Sum.elim (fun d =>
    (impl_in p0.1 1 99).bind fun t18 =>
    (cond (!t18) (some true) (some (decide ((p0.2.1.length : Int) > 10)))).bind fun t25 =>
    (cond t25
      (some true)
      ((impl_in (p0.2.2.1.length : Int) 1 6).bind fun t30 =>
      some (!t30))).bind fun t32 =>
    (cond t32
      (some true)
      ((impl_FdbOk p0.2.2.2.1).bind fun t36 =>
      some (!t36))).bind fun t38 =>
    (cond t38
      (some true)
      ((impl_VtabOk (p0.2.2.2.2.1, p0.2.2.2.2.2.1) (p0.2.2.1.length : Int)).bind fun t45 =>
      some (!t45))).bind fun t47 =>
    cond t47
      (some false)
      ((impl_isCount p0.2.2.2.2.2.2.1).bind fun t50 =>
      (cond t50
        ((impl_isCount p0.2.2.2.2.2.2.2.1).bind fun t54 =>
        some t54)
        (some false)).bind fun t55 =>
      (cond t55
        ((impl_isCount p0.2.2.2.2.2.2.2.2.1).bind fun t59 =>
        some t59)
        (some false)).bind fun t60 =>
      (cond t60
        ((impl_isCount p0.2.2.2.2.2.2.2.2.2.1).bind fun t64 =>
        some t64)
        (some false)).bind fun t65 =>
      (cond t65
        ((impl_isCount p0.2.2.2.2.2.2.2.2.2.2).bind fun t69 =>
        some t69)
        (some false)).bind fun t70 =>
      some t70)) (fun r => some r))
noncomputable def F_impl_BridgeOk : Fn := ⟨[.val true cBridge false], [.val false (.one .bool) true], fun a => impl_BridgeOk a⟩
def a_impl_BridgeOk : List (Nat × LoopAnn) := [(0, ⟨⟨[(8, false, [.dat (.int .i64)])], []⟩,
    ⟨[], []⟩, some ⟨[(2, false, [.dat .bool])], []⟩⟩)]
theorem e_impl_BridgeOk : fnDen ⟨tis, fns_102, [], false⟩ a_impl_BridgeOk Tryz.f27 (codeOf Tryz.f27) [.val true cBridge false] [.val false (.one .bool) true] = fun a => impl_BridgeOk a := by kernel_rfl
theorem m_impl_BridgeOk : Meets Tryz.prog 27 F_impl_BridgeOk := by
  have h := meets_of (ann := a_impl_BridgeOk) (ps := [.val true cBridge false]) (rs := [.val false (.one .bool) true]) g_102 mixed Tryz.func27 (by kernel_rfl) (by kernel_rfl : Tryz.f27.body = some (codeOf Tryz.f27))
  rw [e_impl_BridgeOk] at h
  exact h
noncomputable def fns_27 : List (FuncId × Fn) := (27, F_impl_BridgeOk) :: fns_102
theorem g_27 : Good Tryz.prog ⟨tis, fns_27, [], false⟩ := g_102.cons m_impl_BridgeOk
noncomputable def impl_OidOk_l0 (o0 : List Int) (t7 : Int) : Option (Int ⊕ (Unit ⊕ Bool)) :=
  cond (decide (t7 < (o0.length : Int)))
    ((at? o0 t7).bind fun x9 =>
    (impl_in x9 0 100000).bind fun t12 =>
    cond (!t12) (some (.inr (.inr false))) (some (.inl (w64 (t7 + 1)))))
    (some (.inr (.inl ())))
noncomputable def impl_OidOk (o0 : List Int) : Option Bool :=
  (loop (fun z => impl_OidOk_l0 o0 z) 0).bind (Sum.elim (fun d =>
    (impl_in (o0.length : Int) 1 10).bind fun t17 =>
    some t17) (fun r => some r))
noncomputable def F_impl_OidOk : Fn := ⟨[.val false (.one (.sl (.one (.int .i64)))) false], [.val false (.one .bool) true], fun a => impl_OidOk a⟩
def a_impl_OidOk : List (Nat × LoopAnn) := [(0, ⟨⟨[(7, false, [.dat (.int .i64)])], []⟩,
    ⟨[], []⟩, some ⟨[(2, false, [.dat .bool])], []⟩⟩)]
theorem e_impl_OidOk : fnDen ⟨tis, fns_27, [], false⟩ a_impl_OidOk Tryz.f194 (codeOf Tryz.f194) [.val false (.one (.sl (.one (.int .i64)))) false] [.val false (.one .bool) true] = fun a => impl_OidOk a := by kernel_rfl
theorem m_impl_OidOk : Meets Tryz.prog 194 F_impl_OidOk := by
  have h := meets_of (ann := a_impl_OidOk) (ps := [.val false (.one (.sl (.one (.int .i64)))) false]) (rs := [.val false (.one .bool) true]) g_27 mixed Tryz.func194 (by kernel_rfl) (by kernel_rfl : Tryz.f194.body = some (codeOf Tryz.f194))
  rw [e_impl_OidOk] at h
  exact h
noncomputable def fns_194 : List (FuncId × Fn) := (194, F_impl_OidOk) :: fns_27
theorem g_194 : Good Tryz.prog ⟨tis, fns_194, [], false⟩ := g_27.cons m_impl_OidOk
noncomputable def impl_SameOid_l0 (a0 : List Int) (b1 : List Int) (t13 : Int) : Option (Int ⊕ (Unit ⊕ Bool)) :=
  cond (decide (t13 < (a0.length : Int)))
    ((at? a0 t13).bind fun x18 =>
    (at? b1 t13).bind fun x22 =>
    cond (x18 != x22) (some (.inr (.inr false))) (some (.inl (w64 (t13 + 1)))))
    (some (.inr (.inl ())))
noncomputable def impl_SameOid (a0 : List Int) (b1 : List Int) : Option Bool :=
  cond ((a0.length : Int) != (b1.length : Int))
    (some false)
    ((loop (fun z => impl_SameOid_l0 a0 b1 z) 0).bind (Sum.elim (fun d =>
      some true) (fun r => some r)))
noncomputable def F_impl_SameOid : Fn := ⟨[.val false (.one (.sl (.one (.int .i64)))) false, .val false (.one (.sl (.one (.int .i64)))) false], [.val false (.one .bool) true], fun a => impl_SameOid a.1 a.2⟩
def a_impl_SameOid : List (Nat × LoopAnn) := [(0, ⟨⟨[(13, false, [.dat (.int .i64)])], []⟩,
    ⟨[], []⟩, some ⟨[(4, false, [.dat .bool])], []⟩⟩)]
theorem e_impl_SameOid : fnDen ⟨tis, fns_194, [], false⟩ a_impl_SameOid Tryz.f18 (codeOf Tryz.f18) [.val false (.one (.sl (.one (.int .i64)))) false, .val false (.one (.sl (.one (.int .i64)))) false] [.val false (.one .bool) true] = fun a => impl_SameOid a.1 a.2 := by kernel_rfl
theorem m_impl_SameOid : Meets Tryz.prog 18 F_impl_SameOid := by
  have h := meets_of (ann := a_impl_SameOid) (ps := [.val false (.one (.sl (.one (.int .i64)))) false, .val false (.one (.sl (.one (.int .i64)))) false]) (rs := [.val false (.one .bool) true]) g_194 mixed Tryz.func18 (by kernel_rfl) (by kernel_rfl : Tryz.f18.body = some (codeOf Tryz.f18))
  rw [e_impl_SameOid] at h
  exact h
noncomputable def fns_18 : List (FuncId × Fn) := (18, F_impl_SameOid) :: fns_194
theorem g_18 : Good Tryz.prog ⟨tis, fns_18, [], false⟩ := g_194.cons m_impl_SameOid
noncomputable def impl_SameVal (a0 : Val) (b1 : Val) : Option Bool :=
  (cond (a0.1 == b1.1) (some (a0.2.1 == b1.2.1)) (some false)).bind fun t16 =>
  (cond t16 (some (a0.2.2.1 == b1.2.2.1)) (some false)).bind fun t23 =>
  (cond t23
    ((impl_SameOid a0.2.2.2 b1.2.2.2).bind fun t29 =>
    some t29)
    (some false)).bind fun t30 =>
  some t30
noncomputable def F_impl_SameVal : Fn := ⟨[.val true cVal false, .val true cVal false], [.val false (.one .bool) true], fun a => impl_SameVal a.1 a.2⟩
def a_impl_SameVal : List (Nat × LoopAnn) := []
theorem e_impl_SameVal : fnDen ⟨tis, fns_18, [], false⟩ a_impl_SameVal Tryz.f19 (codeOf Tryz.f19) [.val true cVal false, .val true cVal false] [.val false (.one .bool) true] = fun a => impl_SameVal a.1 a.2 := by kernel_rfl
theorem m_impl_SameVal : Meets Tryz.prog 19 F_impl_SameVal := by
  have h := meets_of (ann := a_impl_SameVal) (ps := [.val true cVal false, .val true cVal false]) (rs := [.val false (.one .bool) true]) g_18 mixed Tryz.func19 (by kernel_rfl) (by kernel_rfl : Tryz.f19.body = some (codeOf Tryz.f19))
  rw [e_impl_SameVal] at h
  exact h
noncomputable def fns_19 : List (FuncId × Fn) := (19, F_impl_SameVal) :: fns_18
theorem g_19 : Good Tryz.prog ⟨tis, fns_19, [], false⟩ := g_18.cons m_impl_SameVal
noncomputable def impl_isInt (n0 : Int) : Option Bool :=
  (impl_in n0 (-2147483648) 2147483647).bind fun t4 =>
  some t4
noncomputable def F_impl_isInt : Fn := ⟨[.val false (.one (.int .i64)) false], [.val false (.one .bool) true], fun a => impl_isInt a⟩
def a_impl_isInt : List (Nat × LoopAnn) := []
theorem e_impl_isInt : fnDen ⟨tis, fns_19, [], false⟩ a_impl_isInt Tryz.f196 (codeOf Tryz.f196) [.val false (.one (.int .i64)) false] [.val false (.one .bool) true] = fun a => impl_isInt a := by kernel_rfl
theorem m_impl_isInt : Meets Tryz.prog 196 F_impl_isInt := by
  have h := meets_of (ann := a_impl_isInt) (ps := [.val false (.one (.int .i64)) false]) (rs := [.val false (.one .bool) true]) g_19 mixed Tryz.func196 (by kernel_rfl) (by kernel_rfl : Tryz.f196.body = some (codeOf Tryz.f196))
  rw [e_impl_isInt] at h
  exact h
noncomputable def fns_196 : List (FuncId × Fn) := (196, F_impl_isInt) :: fns_19
theorem g_196 : Good Tryz.prog ⟨tis, fns_196, [], false⟩ := g_19.cons m_impl_isInt
noncomputable def impl_ValOk (v0 : Val) : Option Bool :=
  cond (v0.1 == 2)
    ((impl_isInt v0.2.1).bind fun t17 =>
    (cond t17
      ((impl_SameVal v0 (v0.1, v0.2.1, [], [])).bind fun t43 =>
      some t43)
      (some false)).bind fun t44 =>
    some t44)
    (cond (v0.1 == 4)
      (let ok4 := decide ((v0.2.2.1.length : Int) ≤ 20)
      (cond ok4
        ((impl_SameVal v0 (v0.1, 0, v0.2.2.1, [])).bind fun t43_1 =>
        some t43_1)
        (some false)).bind fun t44_1 =>
      some t44_1)
      (cond (v0.1 == 6)
        ((impl_OidOk v0.2.2.2).bind fun t34 =>
        (cond t34
          ((impl_SameVal v0 (v0.1, 0, [], v0.2.2.2)).bind fun t43_2 =>
          some t43_2)
          (some false)).bind fun t44_2 =>
        some t44_2)
        (cond (v0.1 == 5)
          (cond (v0.1 == 5)
            (((impl_SameVal v0 (v0.1, 0, [], [])).bind fun t43_3 =>
            some t43_3).bind fun t44_3 =>
            some t44_3)
            (some false))
          (cond (v0.1 == 128)
            (cond (v0.1 == 128)
              (((impl_SameVal v0 (v0.1, 0, [], [])).bind fun t43_4 =>
              some t43_4).bind fun t44_4 =>
              some t44_4)
              (some false))
            (cond (v0.1 == 130)
              (((impl_SameVal v0 (v0.1, 0, [], [])).bind fun t43_5 =>
              some t43_5).bind fun t44_5 =>
              some t44_5)
              (some false))))))
noncomputable def F_impl_ValOk : Fn := ⟨[.val true cVal false], [.val false (.one .bool) true], fun a => impl_ValOk a⟩
def a_impl_ValOk : List (Nat × LoopAnn) := []
theorem e_impl_ValOk : fnDen ⟨tis, fns_196, [], false⟩ a_impl_ValOk Tryz.f195 (codeOf Tryz.f195) [.val true cVal false] [.val false (.one .bool) true] = fun a => impl_ValOk a := by kernel_rfl
theorem m_impl_ValOk : Meets Tryz.prog 195 F_impl_ValOk := by
  have h := meets_of (ann := a_impl_ValOk) (ps := [.val true cVal false]) (rs := [.val false (.one .bool) true]) g_196 mixed Tryz.func195 (by kernel_rfl) (by kernel_rfl : Tryz.f195.body = some (codeOf Tryz.f195))
  rw [e_impl_ValOk] at h
  exact h
noncomputable def fns_195 : List (FuncId × Fn) := (195, F_impl_ValOk) :: fns_196
theorem g_195 : Good Tryz.prog ⟨tis, fns_195, [], false⟩ := g_196.cons m_impl_ValOk
noncomputable def impl_PduOk_l1 (p0 : Pdu) (t35 : Int) : Option (Int ⊕ (Unit ⊕ Bool)) :=
  cond (decide (t35 < (p0.2.2.2.2.length : Int)))
    ((at? p0.2.2.2.2 t35).bind fun x38 =>
    (cond (decide (t35 ≥ 10))
      (some true)
      ((impl_OidOk x38.1).bind fun t45 =>
      some (!t45))).bind fun t47 =>
    (cond t47
      (some true)
      ((impl_ValOk x38.2).bind fun t51 =>
      some (!t51))).bind fun t53 =>
    cond t53 (some (.inr (.inr false))) (some (.inl (w64 (t35 + 1)))))
    (some (.inr (.inl ())))
noncomputable def impl_PduOk_l1_1 (p0 : Pdu) (t35_1 : Int) : Option (Int ⊕ (Unit ⊕ Bool)) :=
  cond (decide (t35_1 < (p0.2.2.2.2.length : Int)))
    ((at? p0.2.2.2.2 t35_1).bind fun x38_1 =>
    (cond (decide (t35_1 ≥ 10))
      (some true)
      ((impl_OidOk x38_1.1).bind fun t45_1 =>
      some (!t45_1))).bind fun t47_1 =>
    (cond t47_1
      (some true)
      ((impl_ValOk x38_1.2).bind fun t51_1 =>
      some (!t51_1))).bind fun t53_1 =>
    cond t53_1 (some (.inr (.inr false))) (some (.inl (w64 (t35_1 + 1)))))
    (some (.inr (.inl ())))
noncomputable def impl_PduOk_l1_2 (p0 : Pdu) (t35_2 : Int) : Option (Int ⊕ (Unit ⊕ Bool)) :=
  cond (decide (t35_2 < (p0.2.2.2.2.length : Int)))
    ((at? p0.2.2.2.2 t35_2).bind fun x38_2 =>
    (cond (decide (t35_2 ≥ 10))
      (some true)
      ((impl_OidOk x38_2.1).bind fun t45_2 =>
      some (!t45_2))).bind fun t47_2 =>
    (cond t47_2
      (some true)
      ((impl_ValOk x38_2.2).bind fun t51_2 =>
      some (!t51_2))).bind fun t53_2 =>
    cond t53_2 (some (.inr (.inr false))) (some (.inl (w64 (t35_2 + 1)))))
    (some (.inr (.inl ())))
noncomputable def impl_PduOk_l1_3 (p0 : Pdu) (t35_3 : Int) : Option (Int ⊕ (Unit ⊕ Bool)) :=
  cond (decide (t35_3 < (p0.2.2.2.2.length : Int)))
    ((at? p0.2.2.2.2 t35_3).bind fun x38_3 =>
    (cond (decide (t35_3 ≥ 10))
      (some true)
      ((impl_OidOk x38_3.1).bind fun t45_3 =>
      some (!t45_3))).bind fun t47_3 =>
    (cond t47_3
      (some true)
      ((impl_ValOk x38_3.2).bind fun t51_3 =>
      some (!t51_3))).bind fun t53_3 =>
    cond t53_3 (some (.inr (.inr false))) (some (.inl (w64 (t35_3 + 1)))))
    (some (.inr (.inl ())))
noncomputable def impl_PduOk_l1_4 (p0 : Pdu) (t35_4 : Int) : Option (Int ⊕ (Unit ⊕ Bool)) :=
  cond (decide (t35_4 < (p0.2.2.2.2.length : Int)))
    ((at? p0.2.2.2.2 t35_4).bind fun x38_4 =>
    (cond (decide (t35_4 ≥ 10))
      (some true)
      ((impl_OidOk x38_4.1).bind fun t45_4 =>
      some (!t45_4))).bind fun t47_4 =>
    (cond t47_4
      (some true)
      ((impl_ValOk x38_4.2).bind fun t51_4 =>
      some (!t51_4))).bind fun t53_4 =>
    cond t53_4 (some (.inr (.inr false))) (some (.inl (w64 (t35_4 + 1)))))
    (some (.inr (.inl ())))
noncomputable def impl_PduOk_l1_5 (p0 : Pdu) (t35_5 : Int) : Option (Int ⊕ (Unit ⊕ Bool)) :=
  cond (decide (t35_5 < (p0.2.2.2.2.length : Int)))
    ((at? p0.2.2.2.2 t35_5).bind fun x38_5 =>
    (cond (decide (t35_5 ≥ 10))
      (some true)
      ((impl_OidOk x38_5.1).bind fun t45_5 =>
      some (!t45_5))).bind fun t47_5 =>
    (cond t47_5
      (some true)
      ((impl_ValOk x38_5.2).bind fun t51_5 =>
      some (!t51_5))).bind fun t53_5 =>
    cond t53_5 (some (.inr (.inr false))) (some (.inl (w64 (t35_5 + 1)))))
    (some (.inr (.inl ())))
noncomputable def impl_PduOk_l1_6 (p0 : Pdu) (t35_6 : Int) : Option (Int ⊕ (Unit ⊕ Bool)) :=
  cond (decide (t35_6 < (p0.2.2.2.2.length : Int)))
    ((at? p0.2.2.2.2 t35_6).bind fun x38_6 =>
    (cond (decide (t35_6 ≥ 10))
      (some true)
      ((impl_OidOk x38_6.1).bind fun t45_6 =>
      some (!t45_6))).bind fun t47_6 =>
    (cond t47_6
      (some true)
      ((impl_ValOk x38_6.2).bind fun t51_6 =>
      some (!t51_6))).bind fun t53_6 =>
    cond t53_6 (some (.inr (.inr false))) (some (.inl (w64 (t35_6 + 1)))))
    (some (.inr (.inl ())))
noncomputable def impl_PduOk_l1_7 (p0 : Pdu) (t35_7 : Int) : Option (Int ⊕ (Unit ⊕ Bool)) :=
  cond (decide (t35_7 < (p0.2.2.2.2.length : Int)))
    ((at? p0.2.2.2.2 t35_7).bind fun x38_7 =>
    (cond (decide (t35_7 ≥ 10))
      (some true)
      ((impl_OidOk x38_7.1).bind fun t45_7 =>
      some (!t45_7))).bind fun t47_7 =>
    (cond t47_7
      (some true)
      ((impl_ValOk x38_7.2).bind fun t51_7 =>
      some (!t51_7))).bind fun t53_7 =>
    cond t53_7 (some (.inr (.inr false))) (some (.inl (w64 (t35_7 + 1)))))
    (some (.inr (.inl ())))
noncomputable def impl_PduOk_l1_8 (p0 : Pdu) (t35_8 : Int) : Option (Int ⊕ (Unit ⊕ Bool)) :=
  cond (decide (t35_8 < (p0.2.2.2.2.length : Int)))
    ((at? p0.2.2.2.2 t35_8).bind fun x38_8 =>
    (cond (decide (t35_8 ≥ 10))
      (some true)
      ((impl_OidOk x38_8.1).bind fun t45_8 =>
      some (!t45_8))).bind fun t47_8 =>
    (cond t47_8
      (some true)
      ((impl_ValOk x38_8.2).bind fun t51_8 =>
      some (!t51_8))).bind fun t53_8 =>
    cond t53_8 (some (.inr (.inr false))) (some (.inl (w64 (t35_8 + 1)))))
    (some (.inr (.inl ())))
noncomputable def impl_PduOk (p0 : Pdu) : Option Bool :=
  cond (p0.1 == 160)
    (cond (p0.1 == 160)
      ((cond (p0.2.2.1 != 0) (some true) (some (p0.2.2.2.1 != 0))).bind fun t18 =>
      cond t18
        (some false)
        ((loop (fun z => impl_PduOk_l1 p0 z) 0).bind (Sum.elim (fun d =>
          (impl_isInt p0.2.1).bind fun t57 =>
          some t57) (fun r => some r))))
      (cond (p0.1 == 162)
        (cond (p0.1 == 162)
          ((impl_in p0.2.2.1 0 1000).bind fun t24 =>
          (cond (!t24)
            (some true)
            ((impl_in p0.2.2.2.1 0 1000).bind fun t29 =>
            some (!t29))).bind fun t31 =>
          cond t31
            (some false)
            ((loop (fun z => impl_PduOk_l1_1 p0 z) 0).bind (Sum.elim (fun d_1 =>
              (impl_isInt p0.2.1).bind fun t57_1 =>
              some t57_1) (fun r_1 => some r_1))))
          (some false))
        (cond (p0.1 == 165)
          ((impl_in p0.2.2.1 0 1000).bind fun t24_1 =>
          (cond (!t24_1)
            (some true)
            ((impl_in p0.2.2.2.1 0 1000).bind fun t29_1 =>
            some (!t29_1))).bind fun t31_1 =>
          cond t31_1
            (some false)
            ((loop (fun z => impl_PduOk_l1_2 p0 z) 0).bind (Sum.elim (fun d_2 =>
              (impl_isInt p0.2.1).bind fun t57_2 =>
              some t57_2) (fun r_2 => some r_2))))
          (some false))))
    (cond (p0.1 == 161)
      (cond (p0.1 == 161)
        ((cond (p0.2.2.1 != 0) (some true) (some (p0.2.2.2.1 != 0))).bind fun t18_1 =>
        cond t18_1
          (some false)
          ((loop (fun z => impl_PduOk_l1_3 p0 z) 0).bind (Sum.elim (fun d_3 =>
            (impl_isInt p0.2.1).bind fun t57_3 =>
            some t57_3) (fun r_3 => some r_3))))
        (cond (p0.1 == 162)
          (cond (p0.1 == 162)
            ((impl_in p0.2.2.1 0 1000).bind fun t24_2 =>
            (cond (!t24_2)
              (some true)
              ((impl_in p0.2.2.2.1 0 1000).bind fun t29_2 =>
              some (!t29_2))).bind fun t31_2 =>
            cond t31_2
              (some false)
              ((loop (fun z => impl_PduOk_l1_4 p0 z) 0).bind (Sum.elim (fun d_4 =>
                (impl_isInt p0.2.1).bind fun t57_4 =>
                some t57_4) (fun r_4 => some r_4))))
            (some false))
          (cond (p0.1 == 165)
            ((impl_in p0.2.2.1 0 1000).bind fun t24_3 =>
            (cond (!t24_3)
              (some true)
              ((impl_in p0.2.2.2.1 0 1000).bind fun t29_3 =>
              some (!t29_3))).bind fun t31_3 =>
            cond t31_3
              (some false)
              ((loop (fun z => impl_PduOk_l1_5 p0 z) 0).bind (Sum.elim (fun d_5 =>
                (impl_isInt p0.2.1).bind fun t57_5 =>
                some t57_5) (fun r_5 => some r_5))))
            (some false))))
      (cond (p0.1 == 163)
        ((cond (p0.2.2.1 != 0) (some true) (some (p0.2.2.2.1 != 0))).bind fun t18_2 =>
        cond t18_2
          (some false)
          ((loop (fun z => impl_PduOk_l1_6 p0 z) 0).bind (Sum.elim (fun d_6 =>
            (impl_isInt p0.2.1).bind fun t57_6 =>
            some t57_6) (fun r_6 => some r_6))))
        (cond (p0.1 == 162)
          (cond (p0.1 == 162)
            ((impl_in p0.2.2.1 0 1000).bind fun t24_4 =>
            (cond (!t24_4)
              (some true)
              ((impl_in p0.2.2.2.1 0 1000).bind fun t29_4 =>
              some (!t29_4))).bind fun t31_4 =>
            cond t31_4
              (some false)
              ((loop (fun z => impl_PduOk_l1_7 p0 z) 0).bind (Sum.elim (fun d_7 =>
                (impl_isInt p0.2.1).bind fun t57_7 =>
                some t57_7) (fun r_7 => some r_7))))
            (some false))
          (cond (p0.1 == 165)
            ((impl_in p0.2.2.1 0 1000).bind fun t24_5 =>
            (cond (!t24_5)
              (some true)
              ((impl_in p0.2.2.2.1 0 1000).bind fun t29_5 =>
              some (!t29_5))).bind fun t31_5 =>
            cond t31_5
              (some false)
              ((loop (fun z => impl_PduOk_l1_8 p0 z) 0).bind (Sum.elim (fun d_8 =>
                (impl_isInt p0.2.1).bind fun t57_8 =>
                some t57_8) (fun r_8 => some r_8))))
            (some false)))))
noncomputable def F_impl_PduOk : Fn := ⟨[.val true cPdu false], [.val false (.one .bool) true], fun a => impl_PduOk a⟩
def a_impl_PduOk : List (Nat × LoopAnn) := [(1, ⟨⟨[(35, false, [.dat (.int .i64)]), (43, false, [.undef]), (44, false, [.undef]), (45, false, [.undef]), (46, false, [.undef]), (49, false, [.undef]), (50, false, [.undef]), (51, false, [.undef]), (52, false, [.undef])], []⟩,
    ⟨[], []⟩, some ⟨[(2, false, [.dat .bool])], []⟩⟩)]
theorem e_impl_PduOk : fnDen ⟨tis, fns_195, [], false⟩ a_impl_PduOk Tryz.f81 (codeOf Tryz.f81) [.val true cPdu false] [.val false (.one .bool) true] = fun a => impl_PduOk a := by kernel_rfl
theorem m_impl_PduOk : Meets Tryz.prog 81 F_impl_PduOk := by
  have h := meets_of (ann := a_impl_PduOk) (ps := [.val true cPdu false]) (rs := [.val false (.one .bool) true]) g_195 mixed Tryz.func81 (by kernel_rfl) (by kernel_rfl : Tryz.f81.body = some (codeOf Tryz.f81))
  rw [e_impl_PduOk] at h
  exact h
noncomputable def fns_81 : List (FuncId × Fn) := (81, F_impl_PduOk) :: fns_195
theorem g_81 : Good Tryz.prog ⟨tis, fns_81, [], false⟩ := g_195.cons m_impl_PduOk
noncomputable def impl_jobOk (j0 : Job) : Option Bool :=
  (impl_in j0.2.2.1 0 2).bind fun t5 =>
  (cond (!t5)
    (some true)
    ((impl_in j0.2.2.2.2.2.2.2.2.2.2.2.2.2.2.2.2.2.2.2.1 0 (j0.2.2.2.2.2.2.2.1.length : Int)).bind fun t14 =>
    some (!t14))).bind fun t16 =>
  (cond t16
    (some true)
    ((impl_in j0.2.2.2.2.2.2.2.2.2.2.2.2.2.2.2.2.2.2.2.2 0 3).bind fun t20 =>
    some (!t20))).bind fun t22 =>
  cond t22
    (some false)
    ((cond (j0.2.2.1 == 0)
      (some true)
      ((impl_PduOk (j0.2.2.2.1, j0.2.2.2.2.1, j0.2.2.2.2.2.1, j0.2.2.2.2.2.2.1, j0.2.2.2.2.2.2.2.1)).bind fun t29 =>
      (cond t29 (some (j0.2.2.2.1 != 162)) (some false)).bind fun t35 =>
      (cond t35
        ((impl_BridgeOk (j0.2.2.2.2.2.2.2.2.1, j0.2.2.2.2.2.2.2.2.2.1, j0.2.2.2.2.2.2.2.2.2.2.1, j0.2.2.2.2.2.2.2.2.2.2.2.1, j0.2.2.2.2.2.2.2.2.2.2.2.2.1, j0.2.2.2.2.2.2.2.2.2.2.2.2.2.1, j0.2.2.2.2.2.2.2.2.2.2.2.2.2.2.1, j0.2.2.2.2.2.2.2.2.2.2.2.2.2.2.2.1, j0.2.2.2.2.2.2.2.2.2.2.2.2.2.2.2.2.1, j0.2.2.2.2.2.2.2.2.2.2.2.2.2.2.2.2.2.1, j0.2.2.2.2.2.2.2.2.2.2.2.2.2.2.2.2.2.2.1)).bind fun t39 =>
        some t39)
        (some false)).bind fun t40 =>
      some t40)).bind fun t41 =>
    some t41)
noncomputable def F_impl_jobOk : Fn := ⟨[.val true cJob false], [.val false (.one .bool) true], fun a => impl_jobOk a⟩
def a_impl_jobOk : List (Nat × LoopAnn) := []
theorem e_impl_jobOk : fnDen ⟨tis, fns_81, [], false⟩ a_impl_jobOk Tryz.f233 (codeOf Tryz.f233) [.val true cJob false] [.val false (.one .bool) true] = fun a => impl_jobOk a := by kernel_rfl
theorem m_impl_jobOk : Meets Tryz.prog 233 F_impl_jobOk := by
  have h := meets_of (ann := a_impl_jobOk) (ps := [.val true cJob false]) (rs := [.val false (.one .bool) true]) g_81 mixed Tryz.func233 (by kernel_rfl) (by kernel_rfl : Tryz.f233.body = some (codeOf Tryz.f233))
  rw [e_impl_jobOk] at h
  exact h
noncomputable def fns_233 : List (FuncId × Fn) := (233, F_impl_jobOk) :: fns_81
theorem g_233 : Good Tryz.prog ⟨tis, fns_233, [], false⟩ := g_81.cons m_impl_jobOk
noncomputable def impl_AgentOk_l0 (p0 : Agent) (t36 : Int) : Option (Int ⊕ (Unit ⊕ Bool)) :=
  cond (decide (t36 < (p0.2.2.2.2.2.2.2.2.2.2.2.2.1.length : Int)))
    ((at? p0.2.2.2.2.2.2.2.2.2.2.2.2.1 t36).bind fun x39 =>
    (impl_in x39.1 1 p0.2.2.2.2.2.2.2.2.2.2.2.2.2.2).bind fun t45 =>
    (cond (!t45)
      (some true)
      ((cond (decide (t36 > 0))
        ((at? p0.2.2.2.2.2.2.2.2.2.2.2.2.1 (w64 (t36 - 1))).bind fun x55 =>
        some (decide (x55.1 ≥ x39.1)))
        (some false)).bind fun t61 =>
      some t61)).bind fun t62 =>
    (cond t62
      (some true)
      ((impl_jobOk x39).bind fun t65 =>
      some (!t65))).bind fun t67 =>
    cond t67 (some (.inr (.inr false))) (some (.inl (w64 (t36 + 1)))))
    (some (.inr (.inl ())))
noncomputable def impl_AgentOk (p0 : Agent) : Option Bool :=
  (impl_BridgeOk (p0.1, p0.2.1, p0.2.2.1, p0.2.2.2.1, p0.2.2.2.2.1, p0.2.2.2.2.2.1, p0.2.2.2.2.2.2.1, p0.2.2.2.2.2.2.2.1, p0.2.2.2.2.2.2.2.2.1, p0.2.2.2.2.2.2.2.2.2.1, p0.2.2.2.2.2.2.2.2.2.2.1)).bind fun t7 =>
  (cond (!t7)
    (some true)
    (some (decide ((p0.2.2.2.2.2.2.2.2.2.2.2.1.length : Int) > 20)))).bind fun t14 =>
  (cond t14
    (some true)
    (some (decide ((p0.2.2.2.2.2.2.2.2.2.2.2.2.1.length : Int) > 6)))).bind fun t20 =>
  (cond t20
    (some true)
    ((impl_isCount p0.2.2.2.2.2.2.2.2.2.2.2.2.2.1).bind fun t24 =>
    some (!t24))).bind fun t26 =>
  (cond t26
    (some true)
    ((impl_isCount p0.2.2.2.2.2.2.2.2.2.2.2.2.2.2).bind fun t30 =>
    some (!t30))).bind fun t32 =>
  cond t32
    (some false)
    ((loop (fun z => impl_AgentOk_l0 p0 z) 0).bind (Sum.elim (fun d =>
      some true) (fun r => some r)))
noncomputable def F_impl_AgentOk : Fn := ⟨[.val true cAgent false], [.val false (.one .bool) true], fun a => impl_AgentOk a⟩
def a_impl_AgentOk : List (Nat × LoopAnn) := [(0, ⟨⟨[(36, false, [.dat (.int .i64)]), (48, false, [.undef]), (49, false, [.undef]), (50, false, [.undef]), (51, false, [.undef]), (52, false, [.undef]), (53, false, [.undef]), (54, false, [.undef]), (55, false, [.undef]), (56, false, [.undef]), (57, false, [.undef]), (58, false, [.undef]), (59, false, [.undef]), (60, false, [.undef]), (61, false, [.undef]), (64, false, [.undef]), (65, false, [.undef]), (66, false, [.undef])], []⟩,
    ⟨[], []⟩, some ⟨[(2, false, [.dat .bool])], []⟩⟩)]
theorem e_impl_AgentOk : fnDen ⟨tis, fns_233, [], false⟩ a_impl_AgentOk Tryz.f109 (codeOf Tryz.f109) [.val true cAgent false] [.val false (.one .bool) true] = fun a => impl_AgentOk a := by kernel_rfl
theorem m_impl_AgentOk : Meets Tryz.prog 109 F_impl_AgentOk := by
  have h := meets_of (ann := a_impl_AgentOk) (ps := [.val true cAgent false]) (rs := [.val false (.one .bool) true]) g_233 mixed Tryz.func109 (by kernel_rfl) (by kernel_rfl : Tryz.f109.body = some (codeOf Tryz.f109))
  rw [e_impl_AgentOk] at h
  exact h
noncomputable def fns_109 : List (FuncId × Fn) := (109, F_impl_AgentOk) :: fns_233
theorem g_109 : Good Tryz.prog ⟨tis, fns_109, [], false⟩ := g_233.cons m_impl_AgentOk
noncomputable def impl_more (n0 : Int) : Option Int :=
  let t2 := min2 (w64 (n0 + 1)) 1000000
  some t2
noncomputable def F_impl_more : Fn := ⟨[.val false (.one (.int .i64)) false], [.val false (.one (.int .i64)) true], fun a => impl_more a⟩
def a_impl_more : List (Nat × LoopAnn) := []
theorem e_impl_more : fnDen ⟨tis, fns_109, [], false⟩ a_impl_more Tryz.f110 (codeOf Tryz.f110) [.val false (.one (.int .i64)) false] [.val false (.one (.int .i64)) true] = fun a => impl_more a := by kernel_rfl
theorem m_impl_more : Meets Tryz.prog 110 F_impl_more := by
  have h := meets_of (ann := a_impl_more) (ps := [.val false (.one (.int .i64)) false]) (rs := [.val false (.one (.int .i64)) true]) g_109 mixed Tryz.func110 (by kernel_rfl) (by kernel_rfl : Tryz.f110.body = some (codeOf Tryz.f110))
  rw [e_impl_more] at h
  exact h
noncomputable def fns_110 : List (FuncId × Fn) := (110, F_impl_more) :: fns_109
theorem g_110 : Good Tryz.prog ⟨tis, fns_110, [], false⟩ := g_109.cons m_impl_more
noncomputable def impl_Arrive (a0 : Agent) (b1 : List Int) : Option Agent :=
  (impl_copyAgent a0).bind fun t7 =>
  (impl_AgentOk a0).bind fun t24 =>
  cond (!t24)
    (some t7)
    ((cond (decide ((a0.2.2.2.2.2.2.2.2.2.2.2.2.1.length : Int) ≥ 6))
      (some true)
      (some (decide (a0.2.2.2.2.2.2.2.2.2.2.2.2.2.2 ≥ 1000000)))).bind fun t35 =>
    cond t35
      ((impl_more a0.2.2.2.2.2.2.2.2.2.2.2.2.2.1).bind fun t38 =>
      some (t7.1, t7.2.1, t7.2.2.1, t7.2.2.2.1, t7.2.2.2.2.1, t7.2.2.2.2.2.1, t7.2.2.2.2.2.2.1, t7.2.2.2.2.2.2.2.1, t7.2.2.2.2.2.2.2.2.1, t7.2.2.2.2.2.2.2.2.2.1, t7.2.2.2.2.2.2.2.2.2.2.1, t7.2.2.2.2.2.2.2.2.2.2.2.1, t7.2.2.2.2.2.2.2.2.2.2.2.2.1, t38, t7.2.2.2.2.2.2.2.2.2.2.2.2.2.2))
      ((impl_copyBytes b1).bind fun t17 =>
      (app t7.2.2.2.2.2.2.2.2.2.2.2.2.1 ([(w64 (t7.2.2.2.2.2.2.2.2.2.2.2.2.2.2 + 1), t17, 0, 0, 0, 0, 0, [], 0, [], [], [], [], [], 0, 0, 0, 0, 0, 0, 0)])).bind fun zs20 =>
      some (t7.1, t7.2.1, t7.2.2.1, t7.2.2.2.1, t7.2.2.2.2.1, t7.2.2.2.2.2.1, t7.2.2.2.2.2.2.1, t7.2.2.2.2.2.2.2.1, t7.2.2.2.2.2.2.2.2.1, t7.2.2.2.2.2.2.2.2.2.1, t7.2.2.2.2.2.2.2.2.2.2.1, t7.2.2.2.2.2.2.2.2.2.2.2.1, zs20, t7.2.2.2.2.2.2.2.2.2.2.2.2.2.1, w64 (t7.2.2.2.2.2.2.2.2.2.2.2.2.2.2 + 1))))
noncomputable def F_impl_Arrive : Fn := ⟨[.val true cAgent false, .val false (.one (.sl (.one (.int .u8)))) false], [.val true cAgent true], fun a => impl_Arrive a.1 a.2⟩
def a_impl_Arrive : List (Nat × LoopAnn) := []
theorem e_impl_Arrive : fnDen ⟨tis, fns_110, [], false⟩ a_impl_Arrive Tryz.f36 (codeOf Tryz.f36) [.val true cAgent false, .val false (.one (.sl (.one (.int .u8)))) false] [.val true cAgent true] = fun a => impl_Arrive a.1 a.2 := by kernel_rfl
theorem m_impl_Arrive : Meets Tryz.prog 36 F_impl_Arrive := by
  have h := meets_of (ann := a_impl_Arrive) (ps := [.val true cAgent false, .val false (.one (.sl (.one (.int .u8)))) false]) (rs := [.val true cAgent true]) g_110 mixed Tryz.func36 (by kernel_rfl) (by kernel_rfl : Tryz.f36.body = some (codeOf Tryz.f36))
  rw [e_impl_Arrive] at h
  exact h
noncomputable def fns_36 : List (FuncId × Fn) := (36, F_impl_Arrive) :: fns_110
theorem g_36 : Good Tryz.prog ⟨tis, fns_36, [], false⟩ := g_110.cons m_impl_Arrive
noncomputable def laws_szPtS (a0 : List Pt) (left1 : Int) : Option Int :=
  let left1_1 := w64 (left1 - (a0.length : Int))
  cond (decide (left1_1 < 0)) (some (-1)) (some left1_1)
noncomputable def F_laws_szPtS : Fn := ⟨[.val false (.one (.sl cPt)) false, .val false (.one (.int .i64)) false], [.val false (.one (.int .i64)) true], fun a => laws_szPtS a.1 a.2⟩
def a_laws_szPtS : List (Nat × LoopAnn) := []
theorem e_laws_szPtS : fnDen ⟨tis, fns_36, [], false⟩ a_laws_szPtS Tryz.f117 (codeOf Tryz.f117) [.val false (.one (.sl cPt)) false, .val false (.one (.int .i64)) false] [.val false (.one (.int .i64)) true] = fun a => laws_szPtS a.1 a.2 := by kernel_rfl
theorem m_laws_szPtS : Meets Tryz.prog 117 F_laws_szPtS := by
  have h := meets_of (ann := a_laws_szPtS) (ps := [.val false (.one (.sl cPt)) false, .val false (.one (.int .i64)) false]) (rs := [.val false (.one (.int .i64)) true]) g_36 mixed Tryz.func117 (by kernel_rfl) (by kernel_rfl : Tryz.f117.body = some (codeOf Tryz.f117))
  rw [e_laws_szPtS] at h
  exact h
noncomputable def fns_117 : List (FuncId × Fn) := (117, F_laws_szPtS) :: fns_36
theorem g_117 : Good Tryz.prog ⟨tis, fns_117, [], false⟩ := g_36.cons m_laws_szPtS
noncomputable def laws_szFentS (a0 : List Fent) (left1 : Int) : Option Int :=
  let left1_1 := w64 (left1 - (a0.length : Int))
  cond (decide (left1_1 < 0)) (some (-1)) (some left1_1)
noncomputable def F_laws_szFentS : Fn := ⟨[.val false (.one (.sl cFent)) false, .val false (.one (.int .i64)) false], [.val false (.one (.int .i64)) true], fun a => laws_szFentS a.1 a.2⟩
def a_laws_szFentS : List (Nat × LoopAnn) := []
theorem e_laws_szFentS : fnDen ⟨tis, fns_117, [], false⟩ a_laws_szFentS Tryz.f118 (codeOf Tryz.f118) [.val false (.one (.sl cFent)) false, .val false (.one (.int .i64)) false] [.val false (.one (.int .i64)) true] = fun a => laws_szFentS a.1 a.2 := by kernel_rfl
theorem m_laws_szFentS : Meets Tryz.prog 118 F_laws_szFentS := by
  have h := meets_of (ann := a_laws_szFentS) (ps := [.val false (.one (.sl cFent)) false, .val false (.one (.int .i64)) false]) (rs := [.val false (.one (.int .i64)) true]) g_117 mixed Tryz.func118 (by kernel_rfl) (by kernel_rfl : Tryz.f118.body = some (codeOf Tryz.f118))
  rw [e_laws_szFentS] at h
  exact h
noncomputable def fns_118 : List (FuncId × Fn) := (118, F_laws_szFentS) :: fns_117
theorem g_118 : Good Tryz.prog ⟨tis, fns_118, [], false⟩ := g_117.cons m_laws_szFentS
noncomputable def laws_szVrowS (a0 : List Vrow) (left1 : Int) : Option Int :=
  let left1_1 := w64 (left1 - (a0.length : Int))
  cond (decide (left1_1 < 0)) (some (-1)) (some left1_1)
noncomputable def F_laws_szVrowS : Fn := ⟨[.val false (.one (.sl cVrow)) false, .val false (.one (.int .i64)) false], [.val false (.one (.int .i64)) true], fun a => laws_szVrowS a.1 a.2⟩
def a_laws_szVrowS : List (Nat × LoopAnn) := []
theorem e_laws_szVrowS : fnDen ⟨tis, fns_118, [], false⟩ a_laws_szVrowS Tryz.f237 (codeOf Tryz.f237) [.val false (.one (.sl cVrow)) false, .val false (.one (.int .i64)) false] [.val false (.one (.int .i64)) true] = fun a => laws_szVrowS a.1 a.2 := by kernel_rfl
theorem m_laws_szVrowS : Meets Tryz.prog 237 F_laws_szVrowS := by
  have h := meets_of (ann := a_laws_szVrowS) (ps := [.val false (.one (.sl cVrow)) false, .val false (.one (.int .i64)) false]) (rs := [.val false (.one (.int .i64)) true]) g_118 mixed Tryz.func237 (by kernel_rfl) (by kernel_rfl : Tryz.f237.body = some (codeOf Tryz.f237))
  rw [e_laws_szVrowS] at h
  exact h
noncomputable def fns_237 : List (FuncId × Fn) := (237, F_laws_szVrowS) :: fns_118
theorem g_237 : Good Tryz.prog ⟨tis, fns_237, [], false⟩ := g_118.cons m_laws_szVrowS
noncomputable def laws_szIntS (a0 : List Int) (left1 : Int) : Option Int :=
  let left1_1 := w64 (left1 - (a0.length : Int))
  cond (decide (left1_1 < 0)) (some (-1)) (some left1_1)
noncomputable def F_laws_szIntS : Fn := ⟨[.val false (.one (.sl (.one (.int .i64)))) false, .val false (.one (.int .i64)) false], [.val false (.one (.int .i64)) true], fun a => laws_szIntS a.1 a.2⟩
def a_laws_szIntS : List (Nat × LoopAnn) := []
theorem e_laws_szIntS : fnDen ⟨tis, fns_237, [], false⟩ a_laws_szIntS Tryz.f238 (codeOf Tryz.f238) [.val false (.one (.sl (.one (.int .i64)))) false, .val false (.one (.int .i64)) false] [.val false (.one (.int .i64)) true] = fun a => laws_szIntS a.1 a.2 := by kernel_rfl
theorem m_laws_szIntS : Meets Tryz.prog 238 F_laws_szIntS := by
  have h := meets_of (ann := a_laws_szIntS) (ps := [.val false (.one (.sl (.one (.int .i64)))) false, .val false (.one (.int .i64)) false]) (rs := [.val false (.one (.int .i64)) true]) g_237 mixed Tryz.func238 (by kernel_rfl) (by kernel_rfl : Tryz.f238.body = some (codeOf Tryz.f238))
  rw [e_laws_szIntS] at h
  exact h
noncomputable def fns_238 : List (FuncId × Fn) := (238, F_laws_szIntS) :: fns_237
theorem g_238 : Good Tryz.prog ⟨tis, fns_238, [], false⟩ := g_237.cons m_laws_szIntS
noncomputable def laws_szVtab (a0 : Vtab) (left1 : Int) : Option Int :=
  (laws_szVrowS a0.1 left1).bind fun t8 =>
  cond (decide (t8 < 0))
    (some (-1))
    ((laws_szIntS a0.2 t8).bind fun t14 =>
    cond (decide (t14 < 0)) (some (-1)) (some t14))
noncomputable def F_laws_szVtab : Fn := ⟨[.val true cVtab false, .val false (.one (.int .i64)) false], [.val false (.one (.int .i64)) true], fun a => laws_szVtab a.1 a.2⟩
def a_laws_szVtab : List (Nat × LoopAnn) := []
theorem e_laws_szVtab : fnDen ⟨tis, fns_238, [], false⟩ a_laws_szVtab Tryz.f119 (codeOf Tryz.f119) [.val true cVtab false, .val false (.one (.int .i64)) false] [.val false (.one (.int .i64)) true] = fun a => laws_szVtab a.1 a.2 := by kernel_rfl
theorem m_laws_szVtab : Meets Tryz.prog 119 F_laws_szVtab := by
  have h := meets_of (ann := a_laws_szVtab) (ps := [.val true cVtab false, .val false (.one (.int .i64)) false]) (rs := [.val false (.one (.int .i64)) true]) g_238 mixed Tryz.func119 (by kernel_rfl) (by kernel_rfl : Tryz.f119.body = some (codeOf Tryz.f119))
  rw [e_laws_szVtab] at h
  exact h
noncomputable def fns_119 : List (FuncId × Fn) := (119, F_laws_szVtab) :: fns_238
theorem g_119 : Good Tryz.prog ⟨tis, fns_119, [], false⟩ := g_238.cons m_laws_szVtab
noncomputable def laws_szBridge (a0 : Bridge) (left1 : Int) : Option Int :=
  let left1_1 := w64 (left1 - (a0.2.1.length : Int))
  cond (decide (left1_1 < 0))
    (some (-1))
    ((laws_szPtS a0.2.2.1 left1_1).bind fun t15 =>
    cond (decide (t15 < 0))
      (some (-1))
      ((laws_szFentS a0.2.2.2.1 t15).bind fun t21 =>
      cond (decide (t21 < 0))
        (some (-1))
        ((laws_szVtab (a0.2.2.2.2.1, a0.2.2.2.2.2.1) t21).bind fun t27 =>
        cond (decide (t27 < 0)) (some (-1)) (some t27))))
noncomputable def F_laws_szBridge : Fn := ⟨[.val true cBridge false, .val false (.one (.int .i64)) false], [.val false (.one (.int .i64)) true], fun a => laws_szBridge a.1 a.2⟩
def a_laws_szBridge : List (Nat × LoopAnn) := []
theorem e_laws_szBridge : fnDen ⟨tis, fns_119, [], false⟩ a_laws_szBridge Tryz.f40 (codeOf Tryz.f40) [.val true cBridge false, .val false (.one (.int .i64)) false] [.val false (.one (.int .i64)) true] = fun a => laws_szBridge a.1 a.2 := by kernel_rfl
theorem m_laws_szBridge : Meets Tryz.prog 40 F_laws_szBridge := by
  have h := meets_of (ann := a_laws_szBridge) (ps := [.val true cBridge false, .val false (.one (.int .i64)) false]) (rs := [.val false (.one (.int .i64)) true]) g_119 mixed Tryz.func40 (by kernel_rfl) (by kernel_rfl : Tryz.f40.body = some (codeOf Tryz.f40))
  rw [e_laws_szBridge] at h
  exact h
noncomputable def fns_40 : List (FuncId × Fn) := (40, F_laws_szBridge) :: fns_119
theorem g_40 : Good Tryz.prog ⟨tis, fns_40, [], false⟩ := g_119.cons m_laws_szBridge
noncomputable def laws_szByteS (a0 : List Int) (left1 : Int) : Option Int :=
  let left1_1 := w64 (left1 - (a0.length : Int))
  cond (decide (left1_1 < 0)) (some (-1)) (some left1_1)
noncomputable def F_laws_szByteS : Fn := ⟨[.val false (.one (.sl (.one (.int .u8)))) false, .val false (.one (.int .i64)) false], [.val false (.one (.int .i64)) true], fun a => laws_szByteS a.1 a.2⟩
def a_laws_szByteS : List (Nat × LoopAnn) := []
theorem e_laws_szByteS : fnDen ⟨tis, fns_40, [], false⟩ a_laws_szByteS Tryz.f327 (codeOf Tryz.f327) [.val false (.one (.sl (.one (.int .u8)))) false, .val false (.one (.int .i64)) false] [.val false (.one (.int .i64)) true] = fun a => laws_szByteS a.1 a.2 := by kernel_rfl
theorem m_laws_szByteS : Meets Tryz.prog 327 F_laws_szByteS := by
  have h := meets_of (ann := a_laws_szByteS) (ps := [.val false (.one (.sl (.one (.int .u8)))) false, .val false (.one (.int .i64)) false]) (rs := [.val false (.one (.int .i64)) true]) g_40 mixed Tryz.func327 (by kernel_rfl) (by kernel_rfl : Tryz.f327.body = some (codeOf Tryz.f327))
  rw [e_laws_szByteS] at h
  exact h
noncomputable def fns_327 : List (FuncId × Fn) := (327, F_laws_szByteS) :: fns_40
theorem g_327 : Good Tryz.prog ⟨tis, fns_327, [], false⟩ := g_40.cons m_laws_szByteS
noncomputable def laws_szVal (a0 : Val) (left1 : Int) : Option Int :=
  let left1_1 := w64 (left1 - (a0.2.2.1.length : Int))
  cond (decide (left1_1 < 0))
    (some (-1))
    ((laws_szIntS a0.2.2.2 left1_1).bind fun t15 =>
    cond (decide (t15 < 0)) (some (-1)) (some t15))
noncomputable def F_laws_szVal : Fn := ⟨[.val true cVal false, .val false (.one (.int .i64)) false], [.val false (.one (.int .i64)) true], fun a => laws_szVal a.1 a.2⟩
def a_laws_szVal : List (Nat × LoopAnn) := []
theorem e_laws_szVal : fnDen ⟨tis, fns_327, [], false⟩ a_laws_szVal Tryz.f239 (codeOf Tryz.f239) [.val true cVal false, .val false (.one (.int .i64)) false] [.val false (.one (.int .i64)) true] = fun a => laws_szVal a.1 a.2 := by kernel_rfl
theorem m_laws_szVal : Meets Tryz.prog 239 F_laws_szVal := by
  have h := meets_of (ann := a_laws_szVal) (ps := [.val true cVal false, .val false (.one (.int .i64)) false]) (rs := [.val false (.one (.int .i64)) true]) g_327 mixed Tryz.func239 (by kernel_rfl) (by kernel_rfl : Tryz.f239.body = some (codeOf Tryz.f239))
  rw [e_laws_szVal] at h
  exact h
noncomputable def fns_239 : List (FuncId × Fn) := (239, F_laws_szVal) :: fns_327
theorem g_239 : Good Tryz.prog ⟨tis, fns_239, [], false⟩ := g_327.cons m_laws_szVal
noncomputable def laws_szBind (a0 : Bind) (left1 : Int) : Option Int :=
  (laws_szIntS a0.1 left1).bind fun t8 =>
  cond (decide (t8 < 0))
    (some (-1))
    ((laws_szVal a0.2 t8).bind fun t14 =>
    cond (decide (t14 < 0)) (some (-1)) (some t14))
noncomputable def F_laws_szBind : Fn := ⟨[.val true cBind false, .val false (.one (.int .i64)) false], [.val false (.one (.int .i64)) true], fun a => laws_szBind a.1 a.2⟩
def a_laws_szBind : List (Nat × LoopAnn) := []
theorem e_laws_szBind : fnDen ⟨tis, fns_239, [], false⟩ a_laws_szBind Tryz.f120 (codeOf Tryz.f120) [.val true cBind false, .val false (.one (.int .i64)) false] [.val false (.one (.int .i64)) true] = fun a => laws_szBind a.1 a.2 := by kernel_rfl
theorem m_laws_szBind : Meets Tryz.prog 120 F_laws_szBind := by
  have h := meets_of (ann := a_laws_szBind) (ps := [.val true cBind false, .val false (.one (.int .i64)) false]) (rs := [.val false (.one (.int .i64)) true]) g_239 mixed Tryz.func120 (by kernel_rfl) (by kernel_rfl : Tryz.f120.body = some (codeOf Tryz.f120))
  rw [e_laws_szBind] at h
  exact h
noncomputable def fns_120 : List (FuncId × Fn) := (120, F_laws_szBind) :: fns_239
theorem g_120 : Good Tryz.prog ⟨tis, fns_120, [], false⟩ := g_239.cons m_laws_szBind
noncomputable def laws_szBindS_l0 (a0 : List Bind) (left1_2 : Int) (i5 : Int) : Option ((Int × Int) ⊕ (Int ⊕ Int)) :=
  cond (decide (i5 < (a0.length : Int)))
    ((at? a0 i5).bind fun x20 =>
    (laws_szBind x20 left1_2).bind fun t23 =>
    cond (decide (t23 < 0)) (some (.inr (.inr (-1)))) (some (.inl (t23, w64 (i5 + 1)))))
    (some (.inr (.inl left1_2)))
noncomputable def laws_szBindS (a0 : List Bind) (left1 : Int) : Option Int :=
  let left1_1 := w64 (left1 - (a0.length : Int))
  cond (decide (left1_1 < 0))
    (some (-1))
    ((loop (fun z => laws_szBindS_l0 a0 z.1 z.2) (left1_1, 0)).bind (Sum.elim (fun d =>
      some d) (fun r => some r)))
noncomputable def F_laws_szBindS : Fn := ⟨[.val false (.one (.sl cBind)) false, .val false (.one (.int .i64)) false], [.val false (.one (.int .i64)) true], fun a => laws_szBindS a.1 a.2⟩
def a_laws_szBindS : List (Nat × LoopAnn) := [(0, ⟨⟨[(1, false, [.dat (.int .i64)]), (5, false, [.dat (.int .i64)])], []⟩,
    ⟨[(1, false, [.dat (.int .i64)])], []⟩, some ⟨[(4, false, [.dat (.int .i64)])], []⟩⟩)]
theorem e_laws_szBindS : fnDen ⟨tis, fns_120, [], false⟩ a_laws_szBindS Tryz.f41 (codeOf Tryz.f41) [.val false (.one (.sl cBind)) false, .val false (.one (.int .i64)) false] [.val false (.one (.int .i64)) true] = fun a => laws_szBindS a.1 a.2 := by kernel_rfl
theorem m_laws_szBindS : Meets Tryz.prog 41 F_laws_szBindS := by
  have h := meets_of (ann := a_laws_szBindS) (ps := [.val false (.one (.sl cBind)) false, .val false (.one (.int .i64)) false]) (rs := [.val false (.one (.int .i64)) true]) g_120 mixed Tryz.func41 (by kernel_rfl) (by kernel_rfl : Tryz.f41.body = some (codeOf Tryz.f41))
  rw [e_laws_szBindS] at h
  exact h
noncomputable def fns_41 : List (FuncId × Fn) := (41, F_laws_szBindS) :: fns_120
theorem g_41 : Good Tryz.prog ⟨tis, fns_41, [], false⟩ := g_120.cons m_laws_szBindS
noncomputable def laws_szPdu (a0 : Pdu) (left1 : Int) : Option Int :=
  (laws_szBindS a0.2.2.2.2 left1).bind fun t8 =>
  cond (decide (t8 < 0)) (some (-1)) (some t8)
noncomputable def F_laws_szPdu : Fn := ⟨[.val true cPdu false, .val false (.one (.int .i64)) false], [.val false (.one (.int .i64)) true], fun a => laws_szPdu a.1 a.2⟩
def a_laws_szPdu : List (Nat × LoopAnn) := []
theorem e_laws_szPdu : fnDen ⟨tis, fns_41, [], false⟩ a_laws_szPdu Tryz.f328 (codeOf Tryz.f328) [.val true cPdu false, .val false (.one (.int .i64)) false] [.val false (.one (.int .i64)) true] = fun a => laws_szPdu a.1 a.2 := by kernel_rfl
theorem m_laws_szPdu : Meets Tryz.prog 328 F_laws_szPdu := by
  have h := meets_of (ann := a_laws_szPdu) (ps := [.val true cPdu false, .val false (.one (.int .i64)) false]) (rs := [.val false (.one (.int .i64)) true]) g_41 mixed Tryz.func328 (by kernel_rfl) (by kernel_rfl : Tryz.f328.body = some (codeOf Tryz.f328))
  rw [e_laws_szPdu] at h
  exact h
noncomputable def fns_328 : List (FuncId × Fn) := (328, F_laws_szPdu) :: fns_41
theorem g_328 : Good Tryz.prog ⟨tis, fns_328, [], false⟩ := g_41.cons m_laws_szPdu
noncomputable def laws_szJob (a0 : Job) (left1 : Int) : Option Int :=
  (laws_szByteS a0.2.1 left1).bind fun t8 =>
  cond (decide (t8 < 0))
    (some (-1))
    ((laws_szPdu (a0.2.2.2.1, a0.2.2.2.2.1, a0.2.2.2.2.2.1, a0.2.2.2.2.2.2.1, a0.2.2.2.2.2.2.2.1) t8).bind fun t14 =>
    cond (decide (t14 < 0))
      (some (-1))
      ((laws_szBridge (a0.2.2.2.2.2.2.2.2.1, a0.2.2.2.2.2.2.2.2.2.1, a0.2.2.2.2.2.2.2.2.2.2.1, a0.2.2.2.2.2.2.2.2.2.2.2.1, a0.2.2.2.2.2.2.2.2.2.2.2.2.1, a0.2.2.2.2.2.2.2.2.2.2.2.2.2.1, a0.2.2.2.2.2.2.2.2.2.2.2.2.2.2.1, a0.2.2.2.2.2.2.2.2.2.2.2.2.2.2.2.1, a0.2.2.2.2.2.2.2.2.2.2.2.2.2.2.2.2.1, a0.2.2.2.2.2.2.2.2.2.2.2.2.2.2.2.2.2.1, a0.2.2.2.2.2.2.2.2.2.2.2.2.2.2.2.2.2.2.1) t14).bind fun t20 =>
      cond (decide (t20 < 0)) (some (-1)) (some t20)))
noncomputable def F_laws_szJob : Fn := ⟨[.val true cJob false, .val false (.one (.int .i64)) false], [.val false (.one (.int .i64)) true], fun a => laws_szJob a.1 a.2⟩
def a_laws_szJob : List (Nat × LoopAnn) := []
theorem e_laws_szJob : fnDen ⟨tis, fns_328, [], false⟩ a_laws_szJob Tryz.f261 (codeOf Tryz.f261) [.val true cJob false, .val false (.one (.int .i64)) false] [.val false (.one (.int .i64)) true] = fun a => laws_szJob a.1 a.2 := by kernel_rfl
theorem m_laws_szJob : Meets Tryz.prog 261 F_laws_szJob := by
  have h := meets_of (ann := a_laws_szJob) (ps := [.val true cJob false, .val false (.one (.int .i64)) false]) (rs := [.val false (.one (.int .i64)) true]) g_328 mixed Tryz.func261 (by kernel_rfl) (by kernel_rfl : Tryz.f261.body = some (codeOf Tryz.f261))
  rw [e_laws_szJob] at h
  exact h
noncomputable def fns_261 : List (FuncId × Fn) := (261, F_laws_szJob) :: fns_328
theorem g_261 : Good Tryz.prog ⟨tis, fns_261, [], false⟩ := g_328.cons m_laws_szJob
noncomputable def laws_szJobS_l0 (a0 : List Job) (left1_2 : Int) (i5 : Int) : Option ((Int × Int) ⊕ (Int ⊕ Int)) :=
  cond (decide (i5 < (a0.length : Int)))
    ((at? a0 i5).bind fun x20 =>
    (laws_szJob x20 left1_2).bind fun t23 =>
    cond (decide (t23 < 0)) (some (.inr (.inr (-1)))) (some (.inl (t23, w64 (i5 + 1)))))
    (some (.inr (.inl left1_2)))
noncomputable def laws_szJobS (a0 : List Job) (left1 : Int) : Option Int :=
  let left1_1 := w64 (left1 - (a0.length : Int))
  cond (decide (left1_1 < 0))
    (some (-1))
    ((loop (fun z => laws_szJobS_l0 a0 z.1 z.2) (left1_1, 0)).bind (Sum.elim (fun d =>
      some d) (fun r => some r)))
noncomputable def F_laws_szJobS : Fn := ⟨[.val false (.one (.sl cJob)) false, .val false (.one (.int .i64)) false], [.val false (.one (.int .i64)) true], fun a => laws_szJobS a.1 a.2⟩
def a_laws_szJobS : List (Nat × LoopAnn) := [(0, ⟨⟨[(1, false, [.dat (.int .i64)]), (5, false, [.dat (.int .i64)])], []⟩,
    ⟨[(1, false, [.dat (.int .i64)])], []⟩, some ⟨[(4, false, [.dat (.int .i64)])], []⟩⟩)]
theorem e_laws_szJobS : fnDen ⟨tis, fns_261, [], false⟩ a_laws_szJobS Tryz.f148 (codeOf Tryz.f148) [.val false (.one (.sl cJob)) false, .val false (.one (.int .i64)) false] [.val false (.one (.int .i64)) true] = fun a => laws_szJobS a.1 a.2 := by kernel_rfl
theorem m_laws_szJobS : Meets Tryz.prog 148 F_laws_szJobS := by
  have h := meets_of (ann := a_laws_szJobS) (ps := [.val false (.one (.sl cJob)) false, .val false (.one (.int .i64)) false]) (rs := [.val false (.one (.int .i64)) true]) g_261 mixed Tryz.func148 (by kernel_rfl) (by kernel_rfl : Tryz.f148.body = some (codeOf Tryz.f148))
  rw [e_laws_szJobS] at h
  exact h
noncomputable def fns_148 : List (FuncId × Fn) := (148, F_laws_szJobS) :: fns_261
theorem g_148 : Good Tryz.prog ⟨tis, fns_148, [], false⟩ := g_261.cons m_laws_szJobS
noncomputable def laws_szAgent (a0 : Agent) (left1 : Int) : Option Int :=
  (laws_szBridge (a0.1, a0.2.1, a0.2.2.1, a0.2.2.2.1, a0.2.2.2.2.1, a0.2.2.2.2.2.1, a0.2.2.2.2.2.2.1, a0.2.2.2.2.2.2.2.1, a0.2.2.2.2.2.2.2.2.1, a0.2.2.2.2.2.2.2.2.2.1, a0.2.2.2.2.2.2.2.2.2.2.1) left1).bind fun t8 =>
  cond (decide (t8 < 0))
    (some (-1))
    (let left1_1 := w64 (t8 - (a0.2.2.2.2.2.2.2.2.2.2.2.1.length : Int))
    cond (decide (left1_1 < 0))
      (some (-1))
      ((laws_szJobS a0.2.2.2.2.2.2.2.2.2.2.2.2.1 left1_1).bind fun t21 =>
      cond (decide (t21 < 0)) (some (-1)) (some t21)))
noncomputable def F_laws_szAgent : Fn := ⟨[.val true cAgent false, .val false (.one (.int .i64)) false], [.val false (.one (.int .i64)) true], fun a => laws_szAgent a.1 a.2⟩
def a_laws_szAgent : List (Nat × LoopAnn) := []
theorem e_laws_szAgent : fnDen ⟨tis, fns_148, [], false⟩ a_laws_szAgent Tryz.f54 (codeOf Tryz.f54) [.val true cAgent false, .val false (.one (.int .i64)) false] [.val false (.one (.int .i64)) true] = fun a => laws_szAgent a.1 a.2 := by kernel_rfl
theorem m_laws_szAgent : Meets Tryz.prog 54 F_laws_szAgent := by
  have h := meets_of (ann := a_laws_szAgent) (ps := [.val true cAgent false, .val false (.one (.int .i64)) false]) (rs := [.val false (.one (.int .i64)) true]) g_148 mixed Tryz.func54 (by kernel_rfl) (by kernel_rfl : Tryz.f54.body = some (codeOf Tryz.f54))
  rw [e_laws_szAgent] at h
  exact h
noncomputable def fns_54 : List (FuncId × Fn) := (54, F_laws_szAgent) :: fns_148
theorem g_54 : Good Tryz.prog ⟨tis, fns_54, [], false⟩ := g_148.cons m_laws_szAgent
noncomputable def laws_toVec (a0 : Vec) : Option Vec :=
  some a0
noncomputable def F_laws_toVec : Fn := ⟨[.val true cVec false], [.val true cVec true], fun a => laws_toVec a⟩
def a_laws_toVec : List (Nat × LoopAnn) := []
theorem e_laws_toVec : fnDen ⟨tis, fns_54, [], false⟩ a_laws_toVec Tryz.f321 (codeOf Tryz.f321) [.val true cVec false] [.val true cVec true] = fun a => laws_toVec a := by kernel_rfl
theorem m_laws_toVec : Meets Tryz.prog 321 F_laws_toVec := by
  have h := meets_of (ann := a_laws_toVec) (ps := [.val true cVec false]) (rs := [.val true cVec true]) g_54 mixed Tryz.func321 (by kernel_rfl) (by kernel_rfl : Tryz.f321.body = some (codeOf Tryz.f321))
  rw [e_laws_toVec] at h
  exact h
noncomputable def fns_321 : List (FuncId × Fn) := (321, F_laws_toVec) :: fns_54
theorem g_321 : Good Tryz.prog ⟨tis, fns_321, [], false⟩ := g_54.cons m_laws_toVec
noncomputable def laws_toPt (a0 : Pt) : Option Pt :=
  (laws_toVec a0.2.2.2).bind fun t15 =>
  some (a0.1, a0.2.1, a0.2.2.1, t15.1, t15.2.1, t15.2.2.1, t15.2.2.2.1, t15.2.2.2.2)
noncomputable def F_laws_toPt : Fn := ⟨[.val true cPt false], [.val true cPt true], fun a => laws_toPt a⟩
def a_laws_toPt : List (Nat × LoopAnn) := []
theorem e_laws_toPt : fnDen ⟨tis, fns_321, [], false⟩ a_laws_toPt Tryz.f240 (codeOf Tryz.f240) [.val true cPt false] [.val true cPt true] = fun a => laws_toPt a := by kernel_rfl
theorem m_laws_toPt : Meets Tryz.prog 240 F_laws_toPt := by
  have h := meets_of (ann := a_laws_toPt) (ps := [.val true cPt false]) (rs := [.val true cPt true]) g_321 mixed Tryz.func240 (by kernel_rfl) (by kernel_rfl : Tryz.f240.body = some (codeOf Tryz.f240))
  rw [e_laws_toPt] at h
  exact h
noncomputable def fns_240 : List (FuncId × Fn) := (240, F_laws_toPt) :: fns_321
theorem g_240 : Good Tryz.prog ⟨tis, fns_240, [], false⟩ := g_321.cons m_laws_toPt
noncomputable def laws_toPtS_l0 (a0 : List Pt) (i4 : Int) (l : List Pt) : Option ((Int × List Pt) ⊕ (List Pt)) :=
  cond (decide (i4 < (a0.length : Int)))
    ((at? a0 i4).bind fun x18 =>
    (laws_toPt x18).bind fun t20 =>
    (ix l.length i4).bind fun j21 =>
    (l[j21]?).bind fun x =>
    some (.inl (w64 (i4 + 1), l.set j21 t20)))
    (some (.inr l))
noncomputable def laws_toPtS (a0 : List Pt) : Option (List Pt) :=
  (mkLen (a0.length : Int)).bind fun n =>
  (loop (fun z => laws_toPtS_l0 a0 z.1 z.2) (0, List.replicate n ((false, 0, false, 0, 0, 0, 0, 0) : Pt))).bind fun d =>
  some d
noncomputable def F_laws_toPtS : Fn := ⟨[.val false (.one (.sl cPt)) false], [.val false (.one (.sl cPt)) true], fun a => laws_toPtS a⟩
def a_laws_toPtS : List (Nat × LoopAnn) := [(0, ⟨⟨[(4, false, [.dat (.int .i64)])], [(265216, .keep cPt true)]⟩,
    ⟨[], [(265216, .keep cPt true)]⟩, none⟩)]
theorem e_laws_toPtS : fnDen ⟨tis, fns_240, [], false⟩ a_laws_toPtS Tryz.f121 (codeOf Tryz.f121) [.val false (.one (.sl cPt)) false] [.val false (.one (.sl cPt)) true] = fun a => laws_toPtS a := by kernel_rfl
theorem m_laws_toPtS : Meets Tryz.prog 121 F_laws_toPtS := by
  have h := meets_of (ann := a_laws_toPtS) (ps := [.val false (.one (.sl cPt)) false]) (rs := [.val false (.one (.sl cPt)) true]) g_240 mixed Tryz.func121 (by kernel_rfl) (by kernel_rfl : Tryz.f121.body = some (codeOf Tryz.f121))
  rw [e_laws_toPtS] at h
  exact h
noncomputable def fns_121 : List (FuncId × Fn) := (121, F_laws_toPtS) :: fns_240
theorem g_121 : Good Tryz.prog ⟨tis, fns_121, [], false⟩ := g_240.cons m_laws_toPtS
noncomputable def laws_toFent (a0 : Fent) : Option Fent :=
  some a0
noncomputable def F_laws_toFent : Fn := ⟨[.val true cFent false], [.val true cFent true], fun a => laws_toFent a⟩
def a_laws_toFent : List (Nat × LoopAnn) := []
theorem e_laws_toFent : fnDen ⟨tis, fns_121, [], false⟩ a_laws_toFent Tryz.f241 (codeOf Tryz.f241) [.val true cFent false] [.val true cFent true] = fun a => laws_toFent a := by kernel_rfl
theorem m_laws_toFent : Meets Tryz.prog 241 F_laws_toFent := by
  have h := meets_of (ann := a_laws_toFent) (ps := [.val true cFent false]) (rs := [.val true cFent true]) g_121 mixed Tryz.func241 (by kernel_rfl) (by kernel_rfl : Tryz.f241.body = some (codeOf Tryz.f241))
  rw [e_laws_toFent] at h
  exact h
noncomputable def fns_241 : List (FuncId × Fn) := (241, F_laws_toFent) :: fns_121
theorem g_241 : Good Tryz.prog ⟨tis, fns_241, [], false⟩ := g_121.cons m_laws_toFent
noncomputable def laws_toFentS_l0 (a0 : List Fent) (i4 : Int) (l : List Fent) : Option ((Int × List Fent) ⊕ (List Fent)) :=
  cond (decide (i4 < (a0.length : Int)))
    ((at? a0 i4).bind fun x18 =>
    (laws_toFent x18).bind fun t20 =>
    (ix l.length i4).bind fun j21 =>
    (l[j21]?).bind fun x =>
    some (.inl (w64 (i4 + 1), l.set j21 t20)))
    (some (.inr l))
noncomputable def laws_toFentS (a0 : List Fent) : Option (List Fent) :=
  (mkLen (a0.length : Int)).bind fun n =>
  (loop (fun z => laws_toFentS_l0 a0 z.1 z.2) (0, List.replicate n ((0, 0, 0, 0, false) : Fent))).bind fun d =>
  some d
noncomputable def F_laws_toFentS : Fn := ⟨[.val false (.one (.sl cFent)) false], [.val false (.one (.sl cFent)) true], fun a => laws_toFentS a⟩
def a_laws_toFentS : List (Nat × LoopAnn) := [(0, ⟨⟨[(4, false, [.dat (.int .i64)])], [(265216, .keep cFent true)]⟩,
    ⟨[], [(265216, .keep cFent true)]⟩, none⟩)]
theorem e_laws_toFentS : fnDen ⟨tis, fns_241, [], false⟩ a_laws_toFentS Tryz.f122 (codeOf Tryz.f122) [.val false (.one (.sl cFent)) false] [.val false (.one (.sl cFent)) true] = fun a => laws_toFentS a := by kernel_rfl
theorem m_laws_toFentS : Meets Tryz.prog 122 F_laws_toFentS := by
  have h := meets_of (ann := a_laws_toFentS) (ps := [.val false (.one (.sl cFent)) false]) (rs := [.val false (.one (.sl cFent)) true]) g_241 mixed Tryz.func122 (by kernel_rfl) (by kernel_rfl : Tryz.f122.body = some (codeOf Tryz.f122))
  rw [e_laws_toFentS] at h
  exact h
noncomputable def fns_122 : List (FuncId × Fn) := (122, F_laws_toFentS) :: fns_241
theorem g_122 : Good Tryz.prog ⟨tis, fns_122, [], false⟩ := g_241.cons m_laws_toFentS
noncomputable def laws_toVrow (a0 : Vrow) : Option Vrow :=
  some a0
noncomputable def F_laws_toVrow : Fn := ⟨[.val true cVrow false], [.val true cVrow true], fun a => laws_toVrow a⟩
def a_laws_toVrow : List (Nat × LoopAnn) := []
theorem e_laws_toVrow : fnDen ⟨tis, fns_122, [], false⟩ a_laws_toVrow Tryz.f322 (codeOf Tryz.f322) [.val true cVrow false] [.val true cVrow true] = fun a => laws_toVrow a := by kernel_rfl
theorem m_laws_toVrow : Meets Tryz.prog 322 F_laws_toVrow := by
  have h := meets_of (ann := a_laws_toVrow) (ps := [.val true cVrow false]) (rs := [.val true cVrow true]) g_122 mixed Tryz.func322 (by kernel_rfl) (by kernel_rfl : Tryz.f322.body = some (codeOf Tryz.f322))
  rw [e_laws_toVrow] at h
  exact h
noncomputable def fns_322 : List (FuncId × Fn) := (322, F_laws_toVrow) :: fns_122
theorem g_322 : Good Tryz.prog ⟨tis, fns_322, [], false⟩ := g_122.cons m_laws_toVrow
noncomputable def laws_toVrowS_l0 (a0 : List Vrow) (i4 : Int) (l : List Vrow) : Option ((Int × List Vrow) ⊕ (List Vrow)) :=
  cond (decide (i4 < (a0.length : Int)))
    ((at? a0 i4).bind fun x18 =>
    (laws_toVrow x18).bind fun t20 =>
    (ix l.length i4).bind fun j21 =>
    (l[j21]?).bind fun x =>
    some (.inl (w64 (i4 + 1), l.set j21 t20)))
    (some (.inr l))
noncomputable def laws_toVrowS (a0 : List Vrow) : Option (List Vrow) :=
  (mkLen (a0.length : Int)).bind fun n =>
  (loop (fun z => laws_toVrowS_l0 a0 z.1 z.2) (0, List.replicate n ((0, 0, 0) : Vrow))).bind fun d =>
  some d
noncomputable def F_laws_toVrowS : Fn := ⟨[.val false (.one (.sl cVrow)) false], [.val false (.one (.sl cVrow)) true], fun a => laws_toVrowS a⟩
def a_laws_toVrowS : List (Nat × LoopAnn) := [(0, ⟨⟨[(4, false, [.dat (.int .i64)])], [(265216, .keep cVrow true)]⟩,
    ⟨[], [(265216, .keep cVrow true)]⟩, none⟩)]
theorem e_laws_toVrowS : fnDen ⟨tis, fns_322, [], false⟩ a_laws_toVrowS Tryz.f242 (codeOf Tryz.f242) [.val false (.one (.sl cVrow)) false] [.val false (.one (.sl cVrow)) true] = fun a => laws_toVrowS a := by kernel_rfl
theorem m_laws_toVrowS : Meets Tryz.prog 242 F_laws_toVrowS := by
  have h := meets_of (ann := a_laws_toVrowS) (ps := [.val false (.one (.sl cVrow)) false]) (rs := [.val false (.one (.sl cVrow)) true]) g_322 mixed Tryz.func242 (by kernel_rfl) (by kernel_rfl : Tryz.f242.body = some (codeOf Tryz.f242))
  rw [e_laws_toVrowS] at h
  exact h
noncomputable def fns_242 : List (FuncId × Fn) := (242, F_laws_toVrowS) :: fns_322
theorem g_242 : Good Tryz.prog ⟨tis, fns_242, [], false⟩ := g_322.cons m_laws_toVrowS
noncomputable def laws_toIntS_l0 (a0 : List Int) (i4 : Int) (l : List Int) : Option ((Int × List Int) ⊕ (List Int)) :=
  cond (decide (i4 < (a0.length : Int)))
    ((at? a0 i4).bind fun x18 =>
    (ix l.length i4).bind fun j20 =>
    (l[j20]?).bind fun x =>
    some (.inl (w64 (i4 + 1), l.set j20 x18)))
    (some (.inr l))
noncomputable def laws_toIntS (a0 : List Int) : Option (List Int) :=
  (mkLen (a0.length : Int)).bind fun n =>
  (loop (fun z => laws_toIntS_l0 a0 z.1 z.2) (0, List.replicate n (0 : Int))).bind fun d =>
  some d
noncomputable def F_laws_toIntS : Fn := ⟨[.val false (.one (.sl (.one (.int .i64)))) false], [.val false (.one (.sl (.one (.int .i64)))) true], fun a => laws_toIntS a⟩
def a_laws_toIntS : List (Nat × LoopAnn) := [(0, ⟨⟨[(4, false, [.dat (.int .i64)])], [(265216, .keep (.one (.int .i64)) true)]⟩,
    ⟨[], [(265216, .keep (.one (.int .i64)) true)]⟩, none⟩)]
theorem e_laws_toIntS : fnDen ⟨tis, fns_242, [], false⟩ a_laws_toIntS Tryz.f243 (codeOf Tryz.f243) [.val false (.one (.sl (.one (.int .i64)))) false] [.val false (.one (.sl (.one (.int .i64)))) true] = fun a => laws_toIntS a := by kernel_rfl
theorem m_laws_toIntS : Meets Tryz.prog 243 F_laws_toIntS := by
  have h := meets_of (ann := a_laws_toIntS) (ps := [.val false (.one (.sl (.one (.int .i64)))) false]) (rs := [.val false (.one (.sl (.one (.int .i64)))) true]) g_242 mixed Tryz.func243 (by kernel_rfl) (by kernel_rfl : Tryz.f243.body = some (codeOf Tryz.f243))
  rw [e_laws_toIntS] at h
  exact h
noncomputable def fns_243 : List (FuncId × Fn) := (243, F_laws_toIntS) :: fns_242
theorem g_243 : Good Tryz.prog ⟨tis, fns_243, [], false⟩ := g_242.cons m_laws_toIntS
noncomputable def laws_toVtab (a0 : Vtab) : Option Vtab :=
  (laws_toVrowS a0.1).bind fun t6 =>
  (laws_toIntS a0.2).bind fun t10 =>
  some (t6, t10)
noncomputable def F_laws_toVtab : Fn := ⟨[.val true cVtab false], [.val true cVtab true], fun a => laws_toVtab a⟩
def a_laws_toVtab : List (Nat × LoopAnn) := []
theorem e_laws_toVtab : fnDen ⟨tis, fns_243, [], false⟩ a_laws_toVtab Tryz.f123 (codeOf Tryz.f123) [.val true cVtab false] [.val true cVtab true] = fun a => laws_toVtab a := by kernel_rfl
theorem m_laws_toVtab : Meets Tryz.prog 123 F_laws_toVtab := by
  have h := meets_of (ann := a_laws_toVtab) (ps := [.val true cVtab false]) (rs := [.val true cVtab true]) g_243 mixed Tryz.func123 (by kernel_rfl) (by kernel_rfl : Tryz.f123.body = some (codeOf Tryz.f123))
  rw [e_laws_toVtab] at h
  exact h
noncomputable def fns_123 : List (FuncId × Fn) := (123, F_laws_toVtab) :: fns_243
theorem g_123 : Good Tryz.prog ⟨tis, fns_123, [], false⟩ := g_243.cons m_laws_toVtab
noncomputable def laws_toBridge (a0 : Bridge) : Option Bridge :=
  (laws_toPtS a0.2.2.1).bind fun t12 =>
  (laws_toFentS a0.2.2.2.1).bind fun t16 =>
  (laws_toVtab (a0.2.2.2.2.1, a0.2.2.2.2.2.1)).bind fun t20 =>
  some (a0.1, a0.2.1, t12, t16, t20.1, t20.2, a0.2.2.2.2.2.2.1, a0.2.2.2.2.2.2.2.1, a0.2.2.2.2.2.2.2.2.1, a0.2.2.2.2.2.2.2.2.2.1, a0.2.2.2.2.2.2.2.2.2.2)
noncomputable def F_laws_toBridge : Fn := ⟨[.val true cBridge false], [.val true cBridge true], fun a => laws_toBridge a⟩
def a_laws_toBridge : List (Nat × LoopAnn) := []
theorem e_laws_toBridge : fnDen ⟨tis, fns_123, [], false⟩ a_laws_toBridge Tryz.f42 (codeOf Tryz.f42) [.val true cBridge false] [.val true cBridge true] = fun a => laws_toBridge a := by kernel_rfl
theorem m_laws_toBridge : Meets Tryz.prog 42 F_laws_toBridge := by
  have h := meets_of (ann := a_laws_toBridge) (ps := [.val true cBridge false]) (rs := [.val true cBridge true]) g_123 mixed Tryz.func42 (by kernel_rfl) (by kernel_rfl : Tryz.f42.body = some (codeOf Tryz.f42))
  rw [e_laws_toBridge] at h
  exact h
noncomputable def fns_42 : List (FuncId × Fn) := (42, F_laws_toBridge) :: fns_123
theorem g_42 : Good Tryz.prog ⟨tis, fns_42, [], false⟩ := g_123.cons m_laws_toBridge
noncomputable def laws_toByteS_l0 (a0 : List Int) (i4 : Int) (l : List Int) : Option ((Int × List Int) ⊕ (List Int)) :=
  cond (decide (i4 < (a0.length : Int)))
    ((at? a0 i4).bind fun x18 =>
    (ix l.length i4).bind fun j20 =>
    (l[j20]?).bind fun x =>
    some (.inl (w64 (i4 + 1), l.set j20 x18)))
    (some (.inr l))
noncomputable def laws_toByteS (a0 : List Int) : Option (List Int) :=
  (mkLen (a0.length : Int)).bind fun n =>
  (loop (fun z => laws_toByteS_l0 a0 z.1 z.2) (0, List.replicate n (0 : Int))).bind fun d =>
  some d
noncomputable def F_laws_toByteS : Fn := ⟨[.val false (.one (.sl (.one (.int .u8)))) false], [.val false (.one (.sl (.one (.int .u8)))) true], fun a => laws_toByteS a⟩
def a_laws_toByteS : List (Nat × LoopAnn) := [(0, ⟨⟨[(4, false, [.dat (.int .i64)])], [(265216, .keep (.one (.int .u8)) true)]⟩,
    ⟨[], [(265216, .keep (.one (.int .u8)) true)]⟩, none⟩)]
theorem e_laws_toByteS : fnDen ⟨tis, fns_42, [], false⟩ a_laws_toByteS Tryz.f60 (codeOf Tryz.f60) [.val false (.one (.sl (.one (.int .u8)))) false] [.val false (.one (.sl (.one (.int .u8)))) true] = fun a => laws_toByteS a := by kernel_rfl
theorem m_laws_toByteS : Meets Tryz.prog 60 F_laws_toByteS := by
  have h := meets_of (ann := a_laws_toByteS) (ps := [.val false (.one (.sl (.one (.int .u8)))) false]) (rs := [.val false (.one (.sl (.one (.int .u8)))) true]) g_42 mixed Tryz.func60 (by kernel_rfl) (by kernel_rfl : Tryz.f60.body = some (codeOf Tryz.f60))
  rw [e_laws_toByteS] at h
  exact h
noncomputable def fns_60 : List (FuncId × Fn) := (60, F_laws_toByteS) :: fns_42
theorem g_60 : Good Tryz.prog ⟨tis, fns_60, [], false⟩ := g_42.cons m_laws_toByteS
noncomputable def laws_toVal (a0 : Val) : Option Val :=
  (laws_toIntS a0.2.2.2).bind fun t15 =>
  some (a0.1, a0.2.1, a0.2.2.1, t15)
noncomputable def F_laws_toVal : Fn := ⟨[.val true cVal false], [.val true cVal true], fun a => laws_toVal a⟩
def a_laws_toVal : List (Nat × LoopAnn) := []
theorem e_laws_toVal : fnDen ⟨tis, fns_60, [], false⟩ a_laws_toVal Tryz.f244 (codeOf Tryz.f244) [.val true cVal false] [.val true cVal true] = fun a => laws_toVal a := by kernel_rfl
theorem m_laws_toVal : Meets Tryz.prog 244 F_laws_toVal := by
  have h := meets_of (ann := a_laws_toVal) (ps := [.val true cVal false]) (rs := [.val true cVal true]) g_60 mixed Tryz.func244 (by kernel_rfl) (by kernel_rfl : Tryz.f244.body = some (codeOf Tryz.f244))
  rw [e_laws_toVal] at h
  exact h
noncomputable def fns_244 : List (FuncId × Fn) := (244, F_laws_toVal) :: fns_60
theorem g_244 : Good Tryz.prog ⟨tis, fns_244, [], false⟩ := g_60.cons m_laws_toVal
noncomputable def laws_toBind (a0 : Bind) : Option Bind :=
  (laws_toIntS a0.1).bind fun t6 =>
  (laws_toVal a0.2).bind fun t10 =>
  some (t6, t10.1, t10.2.1, t10.2.2.1, t10.2.2.2)
noncomputable def F_laws_toBind : Fn := ⟨[.val true cBind false], [.val true cBind true], fun a => laws_toBind a⟩
def a_laws_toBind : List (Nat × LoopAnn) := []
theorem e_laws_toBind : fnDen ⟨tis, fns_244, [], false⟩ a_laws_toBind Tryz.f124 (codeOf Tryz.f124) [.val true cBind false] [.val true cBind true] = fun a => laws_toBind a := by kernel_rfl
theorem m_laws_toBind : Meets Tryz.prog 124 F_laws_toBind := by
  have h := meets_of (ann := a_laws_toBind) (ps := [.val true cBind false]) (rs := [.val true cBind true]) g_244 mixed Tryz.func124 (by kernel_rfl) (by kernel_rfl : Tryz.f124.body = some (codeOf Tryz.f124))
  rw [e_laws_toBind] at h
  exact h
noncomputable def fns_124 : List (FuncId × Fn) := (124, F_laws_toBind) :: fns_244
theorem g_124 : Good Tryz.prog ⟨tis, fns_124, [], false⟩ := g_244.cons m_laws_toBind
noncomputable def laws_toBindS_l0 (a0 : List Bind) (i4 : Int) (l : List Bind) : Option ((Int × List Bind) ⊕ (List Bind)) :=
  cond (decide (i4 < (a0.length : Int)))
    ((at? a0 i4).bind fun x18 =>
    (laws_toBind x18).bind fun t20 =>
    (ix l.length i4).bind fun j21 =>
    (l[j21]?).bind fun x =>
    some (.inl (w64 (i4 + 1), l.set j21 t20)))
    (some (.inr l))
noncomputable def laws_toBindS (a0 : List Bind) : Option (List Bind) :=
  (mkLen (a0.length : Int)).bind fun n =>
  (loop (fun z => laws_toBindS_l0 a0 z.1 z.2) (0, List.replicate n (([], 0, 0, [], []) : Bind))).bind fun d =>
  some d
noncomputable def F_laws_toBindS : Fn := ⟨[.val false (.one (.sl cBind)) false], [.val false (.one (.sl cBind)) true], fun a => laws_toBindS a⟩
def a_laws_toBindS : List (Nat × LoopAnn) := [(0, ⟨⟨[(4, false, [.dat (.int .i64)])], [(265216, .keep cBind true)]⟩,
    ⟨[], [(265216, .keep cBind true)]⟩, none⟩)]
theorem e_laws_toBindS : fnDen ⟨tis, fns_124, [], false⟩ a_laws_toBindS Tryz.f43 (codeOf Tryz.f43) [.val false (.one (.sl cBind)) false] [.val false (.one (.sl cBind)) true] = fun a => laws_toBindS a := by kernel_rfl
theorem m_laws_toBindS : Meets Tryz.prog 43 F_laws_toBindS := by
  have h := meets_of (ann := a_laws_toBindS) (ps := [.val false (.one (.sl cBind)) false]) (rs := [.val false (.one (.sl cBind)) true]) g_124 mixed Tryz.func43 (by kernel_rfl) (by kernel_rfl : Tryz.f43.body = some (codeOf Tryz.f43))
  rw [e_laws_toBindS] at h
  exact h
noncomputable def fns_43 : List (FuncId × Fn) := (43, F_laws_toBindS) :: fns_124
theorem g_43 : Good Tryz.prog ⟨tis, fns_43, [], false⟩ := g_124.cons m_laws_toBindS
noncomputable def laws_toPdu (a0 : Pdu) : Option Pdu :=
  (laws_toBindS a0.2.2.2.2).bind fun t18 =>
  some (a0.1, a0.2.1, a0.2.2.1, a0.2.2.2.1, t18)
noncomputable def F_laws_toPdu : Fn := ⟨[.val true cPdu false], [.val true cPdu true], fun a => laws_toPdu a⟩
def a_laws_toPdu : List (Nat × LoopAnn) := []
theorem e_laws_toPdu : fnDen ⟨tis, fns_43, [], false⟩ a_laws_toPdu Tryz.f333 (codeOf Tryz.f333) [.val true cPdu false] [.val true cPdu true] = fun a => laws_toPdu a := by kernel_rfl
theorem m_laws_toPdu : Meets Tryz.prog 333 F_laws_toPdu := by
  have h := meets_of (ann := a_laws_toPdu) (ps := [.val true cPdu false]) (rs := [.val true cPdu true]) g_43 mixed Tryz.func333 (by kernel_rfl) (by kernel_rfl : Tryz.f333.body = some (codeOf Tryz.f333))
  rw [e_laws_toPdu] at h
  exact h
noncomputable def fns_333 : List (FuncId × Fn) := (333, F_laws_toPdu) :: fns_43
theorem g_333 : Good Tryz.prog ⟨tis, fns_333, [], false⟩ := g_43.cons m_laws_toPdu
noncomputable def laws_toJob (a0 : Job) : Option Job :=
  (laws_toByteS a0.2.1).bind fun t9 =>
  (laws_toPdu (a0.2.2.2.1, a0.2.2.2.2.1, a0.2.2.2.2.2.1, a0.2.2.2.2.2.2.1, a0.2.2.2.2.2.2.2.1)).bind fun t16 =>
  (laws_toBridge (a0.2.2.2.2.2.2.2.2.1, a0.2.2.2.2.2.2.2.2.2.1, a0.2.2.2.2.2.2.2.2.2.2.1, a0.2.2.2.2.2.2.2.2.2.2.2.1, a0.2.2.2.2.2.2.2.2.2.2.2.2.1, a0.2.2.2.2.2.2.2.2.2.2.2.2.2.1, a0.2.2.2.2.2.2.2.2.2.2.2.2.2.2.1, a0.2.2.2.2.2.2.2.2.2.2.2.2.2.2.2.1, a0.2.2.2.2.2.2.2.2.2.2.2.2.2.2.2.2.1, a0.2.2.2.2.2.2.2.2.2.2.2.2.2.2.2.2.2.1, a0.2.2.2.2.2.2.2.2.2.2.2.2.2.2.2.2.2.2.1)).bind fun t20 =>
  some (a0.1, t9, a0.2.2.1, t16.1, t16.2.1, t16.2.2.1, t16.2.2.2.1, t16.2.2.2.2, t20.1, t20.2.1, t20.2.2.1, t20.2.2.2.1, t20.2.2.2.2.1, t20.2.2.2.2.2.1, t20.2.2.2.2.2.2.1, t20.2.2.2.2.2.2.2.1, t20.2.2.2.2.2.2.2.2.1, t20.2.2.2.2.2.2.2.2.2.1, t20.2.2.2.2.2.2.2.2.2.2, a0.2.2.2.2.2.2.2.2.2.2.2.2.2.2.2.2.2.2.2.1, a0.2.2.2.2.2.2.2.2.2.2.2.2.2.2.2.2.2.2.2.2)
noncomputable def F_laws_toJob : Fn := ⟨[.val true cJob false], [.val true cJob true], fun a => laws_toJob a⟩
def a_laws_toJob : List (Nat × LoopAnn) := []
theorem e_laws_toJob : fnDen ⟨tis, fns_333, [], false⟩ a_laws_toJob Tryz.f267 (codeOf Tryz.f267) [.val true cJob false] [.val true cJob true] = fun a => laws_toJob a := by kernel_rfl
theorem m_laws_toJob : Meets Tryz.prog 267 F_laws_toJob := by
  have h := meets_of (ann := a_laws_toJob) (ps := [.val true cJob false]) (rs := [.val true cJob true]) g_333 mixed Tryz.func267 (by kernel_rfl) (by kernel_rfl : Tryz.f267.body = some (codeOf Tryz.f267))
  rw [e_laws_toJob] at h
  exact h
noncomputable def fns_267 : List (FuncId × Fn) := (267, F_laws_toJob) :: fns_333
theorem g_267 : Good Tryz.prog ⟨tis, fns_267, [], false⟩ := g_333.cons m_laws_toJob
noncomputable def laws_toJobS_l0 (a0 : List Job) (i4 : Int) (l : List Job) : Option ((Int × List Job) ⊕ (List Job)) :=
  cond (decide (i4 < (a0.length : Int)))
    ((at? a0 i4).bind fun x18 =>
    (laws_toJob x18).bind fun t20 =>
    (ix l.length i4).bind fun j21 =>
    (l[j21]?).bind fun x =>
    some (.inl (w64 (i4 + 1), l.set j21 t20)))
    (some (.inr l))
noncomputable def laws_toJobS (a0 : List Job) : Option (List Job) :=
  (mkLen (a0.length : Int)).bind fun n =>
  (loop (fun z => laws_toJobS_l0 a0 z.1 z.2) (0, List.replicate n ((0, [], 0, 0, 0, 0, 0, [], 0, [], [], [], [], [], 0, 0, 0, 0, 0, 0, 0) : Job))).bind fun d =>
  some d
noncomputable def F_laws_toJobS : Fn := ⟨[.val false (.one (.sl cJob)) false], [.val false (.one (.sl cJob)) true], fun a => laws_toJobS a⟩
def a_laws_toJobS : List (Nat × LoopAnn) := [(0, ⟨⟨[(4, false, [.dat (.int .i64)])], [(265216, .keep cJob true)]⟩,
    ⟨[], [(265216, .keep cJob true)]⟩, none⟩)]
theorem e_laws_toJobS : fnDen ⟨tis, fns_267, [], false⟩ a_laws_toJobS Tryz.f152 (codeOf Tryz.f152) [.val false (.one (.sl cJob)) false] [.val false (.one (.sl cJob)) true] = fun a => laws_toJobS a := by kernel_rfl
theorem m_laws_toJobS : Meets Tryz.prog 152 F_laws_toJobS := by
  have h := meets_of (ann := a_laws_toJobS) (ps := [.val false (.one (.sl cJob)) false]) (rs := [.val false (.one (.sl cJob)) true]) g_267 mixed Tryz.func152 (by kernel_rfl) (by kernel_rfl : Tryz.f152.body = some (codeOf Tryz.f152))
  rw [e_laws_toJobS] at h
  exact h
noncomputable def fns_152 : List (FuncId × Fn) := (152, F_laws_toJobS) :: fns_267
theorem g_152 : Good Tryz.prog ⟨tis, fns_152, [], false⟩ := g_267.cons m_laws_toJobS
noncomputable def laws_toAgent (a0 : Agent) : Option Agent :=
  (laws_toBridge (a0.1, a0.2.1, a0.2.2.1, a0.2.2.2.1, a0.2.2.2.2.1, a0.2.2.2.2.2.1, a0.2.2.2.2.2.2.1, a0.2.2.2.2.2.2.2.1, a0.2.2.2.2.2.2.2.2.1, a0.2.2.2.2.2.2.2.2.2.1, a0.2.2.2.2.2.2.2.2.2.2.1)).bind fun t6 =>
  (laws_toJobS a0.2.2.2.2.2.2.2.2.2.2.2.2.1).bind fun t13 =>
  some (t6.1, t6.2.1, t6.2.2.1, t6.2.2.2.1, t6.2.2.2.2.1, t6.2.2.2.2.2.1, t6.2.2.2.2.2.2.1, t6.2.2.2.2.2.2.2.1, t6.2.2.2.2.2.2.2.2.1, t6.2.2.2.2.2.2.2.2.2.1, t6.2.2.2.2.2.2.2.2.2.2, a0.2.2.2.2.2.2.2.2.2.2.2.1, t13, a0.2.2.2.2.2.2.2.2.2.2.2.2.2.1, a0.2.2.2.2.2.2.2.2.2.2.2.2.2.2)
noncomputable def F_laws_toAgent : Fn := ⟨[.val true cAgent false], [.val true cAgent true], fun a => laws_toAgent a⟩
def a_laws_toAgent : List (Nat × LoopAnn) := []
theorem e_laws_toAgent : fnDen ⟨tis, fns_152, [], false⟩ a_laws_toAgent Tryz.f56 (codeOf Tryz.f56) [.val true cAgent false] [.val true cAgent true] = fun a => laws_toAgent a := by kernel_rfl
theorem m_laws_toAgent : Meets Tryz.prog 56 F_laws_toAgent := by
  have h := meets_of (ann := a_laws_toAgent) (ps := [.val true cAgent false]) (rs := [.val true cAgent true]) g_152 mixed Tryz.func56 (by kernel_rfl) (by kernel_rfl : Tryz.f56.body = some (codeOf Tryz.f56))
  rw [e_laws_toAgent] at h
  exact h
noncomputable def fns_56 : List (FuncId × Fn) := (56, F_laws_toAgent) :: fns_152
theorem g_56 : Good Tryz.prog ⟨tis, fns_56, [], false⟩ := g_152.cons m_laws_toAgent
noncomputable def laws_eqVec (a0 : Vec) (b1 : Vec) : Option Bool :=
  cond (a0.1 != b1.1)
    (some false)
    (cond (a0.2.1 != b1.2.1)
      (some false)
      (cond (a0.2.2.1 != b1.2.2.1)
        (some false)
        (cond (a0.2.2.2.1 != b1.2.2.2.1)
          (some false)
          (cond (a0.2.2.2.2 != b1.2.2.2.2) (some false) (some true)))))
noncomputable def F_laws_eqVec : Fn := ⟨[.val true cVec false, .val true cVec false], [.val false (.one .bool) true], fun a => laws_eqVec a.1 a.2⟩
def a_laws_eqVec : List (Nat × LoopAnn) := []
theorem e_laws_eqVec : fnDen ⟨tis, fns_56, [], false⟩ a_laws_eqVec Tryz.f323 (codeOf Tryz.f323) [.val true cVec false, .val true cVec false] [.val false (.one .bool) true] = fun a => laws_eqVec a.1 a.2 := by kernel_rfl
theorem m_laws_eqVec : Meets Tryz.prog 323 F_laws_eqVec := by
  have h := meets_of (ann := a_laws_eqVec) (ps := [.val true cVec false, .val true cVec false]) (rs := [.val false (.one .bool) true]) g_56 mixed Tryz.func323 (by kernel_rfl) (by kernel_rfl : Tryz.f323.body = some (codeOf Tryz.f323))
  rw [e_laws_eqVec] at h
  exact h
noncomputable def fns_323 : List (FuncId × Fn) := (323, F_laws_eqVec) :: fns_56
theorem g_323 : Good Tryz.prog ⟨tis, fns_323, [], false⟩ := g_56.cons m_laws_eqVec
noncomputable def laws_eqPt (a0 : Pt) (b1 : Pt) : Option Bool :=
  cond (!(a0.1 == b1.1))
    (some false)
    (cond (a0.2.1 != b1.2.1)
      (some false)
      (cond (!(a0.2.2.1 == b1.2.2.1))
        (some false)
        ((laws_eqVec a0.2.2.2 b1.2.2.2).bind fun t24 =>
        cond (!t24) (some false) (some true))))
noncomputable def F_laws_eqPt : Fn := ⟨[.val true cPt false, .val true cPt false], [.val false (.one .bool) true], fun a => laws_eqPt a.1 a.2⟩
def a_laws_eqPt : List (Nat × LoopAnn) := []
theorem e_laws_eqPt : fnDen ⟨tis, fns_323, [], false⟩ a_laws_eqPt Tryz.f245 (codeOf Tryz.f245) [.val true cPt false, .val true cPt false] [.val false (.one .bool) true] = fun a => laws_eqPt a.1 a.2 := by kernel_rfl
theorem m_laws_eqPt : Meets Tryz.prog 245 F_laws_eqPt := by
  have h := meets_of (ann := a_laws_eqPt) (ps := [.val true cPt false, .val true cPt false]) (rs := [.val false (.one .bool) true]) g_323 mixed Tryz.func245 (by kernel_rfl) (by kernel_rfl : Tryz.f245.body = some (codeOf Tryz.f245))
  rw [e_laws_eqPt] at h
  exact h
noncomputable def fns_245 : List (FuncId × Fn) := (245, F_laws_eqPt) :: fns_323
theorem g_245 : Good Tryz.prog ⟨tis, fns_245, [], false⟩ := g_323.cons m_laws_eqPt
noncomputable def laws_eqPtS_l0 (a0 : List Pt) (b1 : List Pt) (i5 : Int) : Option (Int ⊕ (Unit ⊕ Bool)) :=
  cond (decide (i5 < (a0.length : Int)))
    ((at? a0 i5).bind fun x19 =>
    (at? b1 i5).bind fun x23 =>
    (laws_eqPt x19 x23).bind fun t25 =>
    cond (!t25) (some (.inr (.inr false))) (some (.inl (w64 (i5 + 1)))))
    (some (.inr (.inl ())))
noncomputable def laws_eqPtS (a0 : List Pt) (b1 : List Pt) : Option Bool :=
  cond ((a0.length : Int) != (b1.length : Int))
    (some false)
    ((loop (fun z => laws_eqPtS_l0 a0 b1 z) 0).bind (Sum.elim (fun d =>
      some true) (fun r => some r)))
noncomputable def F_laws_eqPtS : Fn := ⟨[.val false (.one (.sl cPt)) false, .val false (.one (.sl cPt)) false], [.val false (.one .bool) true], fun a => laws_eqPtS a.1 a.2⟩
def a_laws_eqPtS : List (Nat × LoopAnn) := [(0, ⟨⟨[(5, false, [.dat (.int .i64)])], []⟩,
    ⟨[], []⟩, some ⟨[(4, false, [.dat .bool])], []⟩⟩)]
theorem e_laws_eqPtS : fnDen ⟨tis, fns_245, [], false⟩ a_laws_eqPtS Tryz.f125 (codeOf Tryz.f125) [.val false (.one (.sl cPt)) false, .val false (.one (.sl cPt)) false] [.val false (.one .bool) true] = fun a => laws_eqPtS a.1 a.2 := by kernel_rfl
theorem m_laws_eqPtS : Meets Tryz.prog 125 F_laws_eqPtS := by
  have h := meets_of (ann := a_laws_eqPtS) (ps := [.val false (.one (.sl cPt)) false, .val false (.one (.sl cPt)) false]) (rs := [.val false (.one .bool) true]) g_245 mixed Tryz.func125 (by kernel_rfl) (by kernel_rfl : Tryz.f125.body = some (codeOf Tryz.f125))
  rw [e_laws_eqPtS] at h
  exact h
noncomputable def fns_125 : List (FuncId × Fn) := (125, F_laws_eqPtS) :: fns_245
theorem g_125 : Good Tryz.prog ⟨tis, fns_125, [], false⟩ := g_245.cons m_laws_eqPtS
noncomputable def laws_eqFent (a0 : Fent) (b1 : Fent) : Option Bool :=
  cond (a0.1 != b1.1)
    (some false)
    (cond (a0.2.1 != b1.2.1)
      (some false)
      (cond (a0.2.2.1 != b1.2.2.1)
        (some false)
        (cond (a0.2.2.2.1 != b1.2.2.2.1)
          (some false)
          (cond (!(a0.2.2.2.2 == b1.2.2.2.2)) (some false) (some true)))))
noncomputable def F_laws_eqFent : Fn := ⟨[.val true cFent false, .val true cFent false], [.val false (.one .bool) true], fun a => laws_eqFent a.1 a.2⟩
def a_laws_eqFent : List (Nat × LoopAnn) := []
theorem e_laws_eqFent : fnDen ⟨tis, fns_125, [], false⟩ a_laws_eqFent Tryz.f246 (codeOf Tryz.f246) [.val true cFent false, .val true cFent false] [.val false (.one .bool) true] = fun a => laws_eqFent a.1 a.2 := by kernel_rfl
theorem m_laws_eqFent : Meets Tryz.prog 246 F_laws_eqFent := by
  have h := meets_of (ann := a_laws_eqFent) (ps := [.val true cFent false, .val true cFent false]) (rs := [.val false (.one .bool) true]) g_125 mixed Tryz.func246 (by kernel_rfl) (by kernel_rfl : Tryz.f246.body = some (codeOf Tryz.f246))
  rw [e_laws_eqFent] at h
  exact h
noncomputable def fns_246 : List (FuncId × Fn) := (246, F_laws_eqFent) :: fns_125
theorem g_246 : Good Tryz.prog ⟨tis, fns_246, [], false⟩ := g_125.cons m_laws_eqFent
noncomputable def laws_eqFentS_l0 (a0 : List Fent) (b1 : List Fent) (i5 : Int) : Option (Int ⊕ (Unit ⊕ Bool)) :=
  cond (decide (i5 < (a0.length : Int)))
    ((at? a0 i5).bind fun x19 =>
    (at? b1 i5).bind fun x23 =>
    (laws_eqFent x19 x23).bind fun t25 =>
    cond (!t25) (some (.inr (.inr false))) (some (.inl (w64 (i5 + 1)))))
    (some (.inr (.inl ())))
noncomputable def laws_eqFentS (a0 : List Fent) (b1 : List Fent) : Option Bool :=
  cond ((a0.length : Int) != (b1.length : Int))
    (some false)
    ((loop (fun z => laws_eqFentS_l0 a0 b1 z) 0).bind (Sum.elim (fun d =>
      some true) (fun r => some r)))
noncomputable def F_laws_eqFentS : Fn := ⟨[.val false (.one (.sl cFent)) false, .val false (.one (.sl cFent)) false], [.val false (.one .bool) true], fun a => laws_eqFentS a.1 a.2⟩
def a_laws_eqFentS : List (Nat × LoopAnn) := [(0, ⟨⟨[(5, false, [.dat (.int .i64)])], []⟩,
    ⟨[], []⟩, some ⟨[(4, false, [.dat .bool])], []⟩⟩)]
theorem e_laws_eqFentS : fnDen ⟨tis, fns_246, [], false⟩ a_laws_eqFentS Tryz.f126 (codeOf Tryz.f126) [.val false (.one (.sl cFent)) false, .val false (.one (.sl cFent)) false] [.val false (.one .bool) true] = fun a => laws_eqFentS a.1 a.2 := by kernel_rfl
theorem m_laws_eqFentS : Meets Tryz.prog 126 F_laws_eqFentS := by
  have h := meets_of (ann := a_laws_eqFentS) (ps := [.val false (.one (.sl cFent)) false, .val false (.one (.sl cFent)) false]) (rs := [.val false (.one .bool) true]) g_246 mixed Tryz.func126 (by kernel_rfl) (by kernel_rfl : Tryz.f126.body = some (codeOf Tryz.f126))
  rw [e_laws_eqFentS] at h
  exact h
noncomputable def fns_126 : List (FuncId × Fn) := (126, F_laws_eqFentS) :: fns_246
theorem g_126 : Good Tryz.prog ⟨tis, fns_126, [], false⟩ := g_246.cons m_laws_eqFentS
noncomputable def laws_eqVrow (a0 : Vrow) (b1 : Vrow) : Option Bool :=
  cond (a0.1 != b1.1)
    (some false)
    (cond (a0.2.1 != b1.2.1) (some false) (cond (a0.2.2 != b1.2.2) (some false) (some true)))
noncomputable def F_laws_eqVrow : Fn := ⟨[.val true cVrow false, .val true cVrow false], [.val false (.one .bool) true], fun a => laws_eqVrow a.1 a.2⟩
def a_laws_eqVrow : List (Nat × LoopAnn) := []
theorem e_laws_eqVrow : fnDen ⟨tis, fns_126, [], false⟩ a_laws_eqVrow Tryz.f324 (codeOf Tryz.f324) [.val true cVrow false, .val true cVrow false] [.val false (.one .bool) true] = fun a => laws_eqVrow a.1 a.2 := by kernel_rfl
theorem m_laws_eqVrow : Meets Tryz.prog 324 F_laws_eqVrow := by
  have h := meets_of (ann := a_laws_eqVrow) (ps := [.val true cVrow false, .val true cVrow false]) (rs := [.val false (.one .bool) true]) g_126 mixed Tryz.func324 (by kernel_rfl) (by kernel_rfl : Tryz.f324.body = some (codeOf Tryz.f324))
  rw [e_laws_eqVrow] at h
  exact h
noncomputable def fns_324 : List (FuncId × Fn) := (324, F_laws_eqVrow) :: fns_126
theorem g_324 : Good Tryz.prog ⟨tis, fns_324, [], false⟩ := g_126.cons m_laws_eqVrow
noncomputable def laws_eqVrowS_l0 (a0 : List Vrow) (b1 : List Vrow) (i5 : Int) : Option (Int ⊕ (Unit ⊕ Bool)) :=
  cond (decide (i5 < (a0.length : Int)))
    ((at? a0 i5).bind fun x19 =>
    (at? b1 i5).bind fun x23 =>
    (laws_eqVrow x19 x23).bind fun t25 =>
    cond (!t25) (some (.inr (.inr false))) (some (.inl (w64 (i5 + 1)))))
    (some (.inr (.inl ())))
noncomputable def laws_eqVrowS (a0 : List Vrow) (b1 : List Vrow) : Option Bool :=
  cond ((a0.length : Int) != (b1.length : Int))
    (some false)
    ((loop (fun z => laws_eqVrowS_l0 a0 b1 z) 0).bind (Sum.elim (fun d =>
      some true) (fun r => some r)))
noncomputable def F_laws_eqVrowS : Fn := ⟨[.val false (.one (.sl cVrow)) false, .val false (.one (.sl cVrow)) false], [.val false (.one .bool) true], fun a => laws_eqVrowS a.1 a.2⟩
def a_laws_eqVrowS : List (Nat × LoopAnn) := [(0, ⟨⟨[(5, false, [.dat (.int .i64)])], []⟩,
    ⟨[], []⟩, some ⟨[(4, false, [.dat .bool])], []⟩⟩)]
theorem e_laws_eqVrowS : fnDen ⟨tis, fns_324, [], false⟩ a_laws_eqVrowS Tryz.f247 (codeOf Tryz.f247) [.val false (.one (.sl cVrow)) false, .val false (.one (.sl cVrow)) false] [.val false (.one .bool) true] = fun a => laws_eqVrowS a.1 a.2 := by kernel_rfl
theorem m_laws_eqVrowS : Meets Tryz.prog 247 F_laws_eqVrowS := by
  have h := meets_of (ann := a_laws_eqVrowS) (ps := [.val false (.one (.sl cVrow)) false, .val false (.one (.sl cVrow)) false]) (rs := [.val false (.one .bool) true]) g_324 mixed Tryz.func247 (by kernel_rfl) (by kernel_rfl : Tryz.f247.body = some (codeOf Tryz.f247))
  rw [e_laws_eqVrowS] at h
  exact h
noncomputable def fns_247 : List (FuncId × Fn) := (247, F_laws_eqVrowS) :: fns_324
theorem g_247 : Good Tryz.prog ⟨tis, fns_247, [], false⟩ := g_324.cons m_laws_eqVrowS
noncomputable def laws_eqIntS_l0 (a0 : List Int) (b1 : List Int) (i5 : Int) : Option (Int ⊕ (Unit ⊕ Bool)) :=
  cond (decide (i5 < (a0.length : Int)))
    ((at? a0 i5).bind fun x19 =>
    (at? b1 i5).bind fun x23 =>
    cond (x19 != x23) (some (.inr (.inr false))) (some (.inl (w64 (i5 + 1)))))
    (some (.inr (.inl ())))
noncomputable def laws_eqIntS (a0 : List Int) (b1 : List Int) : Option Bool :=
  cond ((a0.length : Int) != (b1.length : Int))
    (some false)
    ((loop (fun z => laws_eqIntS_l0 a0 b1 z) 0).bind (Sum.elim (fun d =>
      some true) (fun r => some r)))
noncomputable def F_laws_eqIntS : Fn := ⟨[.val false (.one (.sl (.one (.int .i64)))) false, .val false (.one (.sl (.one (.int .i64)))) false], [.val false (.one .bool) true], fun a => laws_eqIntS a.1 a.2⟩
def a_laws_eqIntS : List (Nat × LoopAnn) := [(0, ⟨⟨[(5, false, [.dat (.int .i64)])], []⟩,
    ⟨[], []⟩, some ⟨[(4, false, [.dat .bool])], []⟩⟩)]
theorem e_laws_eqIntS : fnDen ⟨tis, fns_247, [], false⟩ a_laws_eqIntS Tryz.f248 (codeOf Tryz.f248) [.val false (.one (.sl (.one (.int .i64)))) false, .val false (.one (.sl (.one (.int .i64)))) false] [.val false (.one .bool) true] = fun a => laws_eqIntS a.1 a.2 := by kernel_rfl
theorem m_laws_eqIntS : Meets Tryz.prog 248 F_laws_eqIntS := by
  have h := meets_of (ann := a_laws_eqIntS) (ps := [.val false (.one (.sl (.one (.int .i64)))) false, .val false (.one (.sl (.one (.int .i64)))) false]) (rs := [.val false (.one .bool) true]) g_247 mixed Tryz.func248 (by kernel_rfl) (by kernel_rfl : Tryz.f248.body = some (codeOf Tryz.f248))
  rw [e_laws_eqIntS] at h
  exact h
noncomputable def fns_248 : List (FuncId × Fn) := (248, F_laws_eqIntS) :: fns_247
theorem g_248 : Good Tryz.prog ⟨tis, fns_248, [], false⟩ := g_247.cons m_laws_eqIntS
noncomputable def laws_eqVtab (a0 : Vtab) (b1 : Vtab) : Option Bool :=
  (laws_eqVrowS a0.1 b1.1).bind fun t9 =>
  cond (!t9)
    (some false)
    ((laws_eqIntS a0.2 b1.2).bind fun t15 =>
    cond (!t15) (some false) (some true))
noncomputable def F_laws_eqVtab : Fn := ⟨[.val true cVtab false, .val true cVtab false], [.val false (.one .bool) true], fun a => laws_eqVtab a.1 a.2⟩
def a_laws_eqVtab : List (Nat × LoopAnn) := []
theorem e_laws_eqVtab : fnDen ⟨tis, fns_248, [], false⟩ a_laws_eqVtab Tryz.f127 (codeOf Tryz.f127) [.val true cVtab false, .val true cVtab false] [.val false (.one .bool) true] = fun a => laws_eqVtab a.1 a.2 := by kernel_rfl
theorem m_laws_eqVtab : Meets Tryz.prog 127 F_laws_eqVtab := by
  have h := meets_of (ann := a_laws_eqVtab) (ps := [.val true cVtab false, .val true cVtab false]) (rs := [.val false (.one .bool) true]) g_248 mixed Tryz.func127 (by kernel_rfl) (by kernel_rfl : Tryz.f127.body = some (codeOf Tryz.f127))
  rw [e_laws_eqVtab] at h
  exact h
noncomputable def fns_127 : List (FuncId × Fn) := (127, F_laws_eqVtab) :: fns_248
theorem g_127 : Good Tryz.prog ⟨tis, fns_127, [], false⟩ := g_248.cons m_laws_eqVtab
noncomputable def laws_eqBridge (a0 : Bridge) (b1 : Bridge) : Option Bool :=
  cond (a0.1 != b1.1)
    (some false)
    (cond (!(a0.2.1 == b1.2.1))
      (some false)
      ((laws_eqPtS a0.2.2.1 b1.2.2.1).bind fun t19 =>
      cond (!t19)
        (some false)
        ((laws_eqFentS a0.2.2.2.1 b1.2.2.2.1).bind fun t25 =>
        cond (!t25)
          (some false)
          ((laws_eqVtab (a0.2.2.2.2.1, a0.2.2.2.2.2.1) (b1.2.2.2.2.1, b1.2.2.2.2.2.1)).bind fun t31 =>
          cond (!t31)
            (some false)
            (cond (a0.2.2.2.2.2.2.1 != b1.2.2.2.2.2.2.1)
              (some false)
              (cond (a0.2.2.2.2.2.2.2.1 != b1.2.2.2.2.2.2.2.1)
                (some false)
                (cond (a0.2.2.2.2.2.2.2.2.1 != b1.2.2.2.2.2.2.2.2.1)
                  (some false)
                  (cond (a0.2.2.2.2.2.2.2.2.2.1 != b1.2.2.2.2.2.2.2.2.2.1)
                    (some false)
                    (cond (a0.2.2.2.2.2.2.2.2.2.2 != b1.2.2.2.2.2.2.2.2.2.2) (some false) (some true))))))))))
noncomputable def F_laws_eqBridge : Fn := ⟨[.val true cBridge false, .val true cBridge false], [.val false (.one .bool) true], fun a => laws_eqBridge a.1 a.2⟩
def a_laws_eqBridge : List (Nat × LoopAnn) := []
theorem e_laws_eqBridge : fnDen ⟨tis, fns_127, [], false⟩ a_laws_eqBridge Tryz.f44 (codeOf Tryz.f44) [.val true cBridge false, .val true cBridge false] [.val false (.one .bool) true] = fun a => laws_eqBridge a.1 a.2 := by kernel_rfl
theorem m_laws_eqBridge : Meets Tryz.prog 44 F_laws_eqBridge := by
  have h := meets_of (ann := a_laws_eqBridge) (ps := [.val true cBridge false, .val true cBridge false]) (rs := [.val false (.one .bool) true]) g_127 mixed Tryz.func44 (by kernel_rfl) (by kernel_rfl : Tryz.f44.body = some (codeOf Tryz.f44))
  rw [e_laws_eqBridge] at h
  exact h
noncomputable def fns_44 : List (FuncId × Fn) := (44, F_laws_eqBridge) :: fns_127
theorem g_44 : Good Tryz.prog ⟨tis, fns_44, [], false⟩ := g_127.cons m_laws_eqBridge
noncomputable def laws_eqByteS_l0 (a0 : List Int) (b1 : List Int) (i5 : Int) : Option (Int ⊕ (Unit ⊕ Bool)) :=
  cond (decide (i5 < (a0.length : Int)))
    ((at? a0 i5).bind fun x19 =>
    (at? b1 i5).bind fun x23 =>
    cond (x19 != x23) (some (.inr (.inr false))) (some (.inl (w64 (i5 + 1)))))
    (some (.inr (.inl ())))
noncomputable def laws_eqByteS (a0 : List Int) (b1 : List Int) : Option Bool :=
  cond ((a0.length : Int) != (b1.length : Int))
    (some false)
    ((loop (fun z => laws_eqByteS_l0 a0 b1 z) 0).bind (Sum.elim (fun d =>
      some true) (fun r => some r)))
noncomputable def F_laws_eqByteS : Fn := ⟨[.val false (.one (.sl (.one (.int .u8)))) false, .val false (.one (.sl (.one (.int .u8)))) false], [.val false (.one .bool) true], fun a => laws_eqByteS a.1 a.2⟩
def a_laws_eqByteS : List (Nat × LoopAnn) := [(0, ⟨⟨[(5, false, [.dat (.int .i64)])], []⟩,
    ⟨[], []⟩, some ⟨[(4, false, [.dat .bool])], []⟩⟩)]
theorem e_laws_eqByteS : fnDen ⟨tis, fns_44, [], false⟩ a_laws_eqByteS Tryz.f61 (codeOf Tryz.f61) [.val false (.one (.sl (.one (.int .u8)))) false, .val false (.one (.sl (.one (.int .u8)))) false] [.val false (.one .bool) true] = fun a => laws_eqByteS a.1 a.2 := by kernel_rfl
theorem m_laws_eqByteS : Meets Tryz.prog 61 F_laws_eqByteS := by
  have h := meets_of (ann := a_laws_eqByteS) (ps := [.val false (.one (.sl (.one (.int .u8)))) false, .val false (.one (.sl (.one (.int .u8)))) false]) (rs := [.val false (.one .bool) true]) g_44 mixed Tryz.func61 (by kernel_rfl) (by kernel_rfl : Tryz.f61.body = some (codeOf Tryz.f61))
  rw [e_laws_eqByteS] at h
  exact h
noncomputable def fns_61 : List (FuncId × Fn) := (61, F_laws_eqByteS) :: fns_44
theorem g_61 : Good Tryz.prog ⟨tis, fns_61, [], false⟩ := g_44.cons m_laws_eqByteS
noncomputable def laws_eqVal (a0 : Val) (b1 : Val) : Option Bool :=
  cond (a0.1 != b1.1)
    (some false)
    (cond (a0.2.1 != b1.2.1)
      (some false)
      (cond (!(a0.2.2.1 == b1.2.2.1))
        (some false)
        ((laws_eqIntS a0.2.2.2 b1.2.2.2).bind fun t24 =>
        cond (!t24) (some false) (some true))))
noncomputable def F_laws_eqVal : Fn := ⟨[.val true cVal false, .val true cVal false], [.val false (.one .bool) true], fun a => laws_eqVal a.1 a.2⟩
def a_laws_eqVal : List (Nat × LoopAnn) := []
theorem e_laws_eqVal : fnDen ⟨tis, fns_61, [], false⟩ a_laws_eqVal Tryz.f249 (codeOf Tryz.f249) [.val true cVal false, .val true cVal false] [.val false (.one .bool) true] = fun a => laws_eqVal a.1 a.2 := by kernel_rfl
theorem m_laws_eqVal : Meets Tryz.prog 249 F_laws_eqVal := by
  have h := meets_of (ann := a_laws_eqVal) (ps := [.val true cVal false, .val true cVal false]) (rs := [.val false (.one .bool) true]) g_61 mixed Tryz.func249 (by kernel_rfl) (by kernel_rfl : Tryz.f249.body = some (codeOf Tryz.f249))
  rw [e_laws_eqVal] at h
  exact h
noncomputable def fns_249 : List (FuncId × Fn) := (249, F_laws_eqVal) :: fns_61
theorem g_249 : Good Tryz.prog ⟨tis, fns_249, [], false⟩ := g_61.cons m_laws_eqVal
noncomputable def laws_eqBind (a0 : Bind) (b1 : Bind) : Option Bool :=
  (laws_eqIntS a0.1 b1.1).bind fun t9 =>
  cond (!t9)
    (some false)
    ((laws_eqVal a0.2 b1.2).bind fun t15 =>
    cond (!t15) (some false) (some true))
noncomputable def F_laws_eqBind : Fn := ⟨[.val true cBind false, .val true cBind false], [.val false (.one .bool) true], fun a => laws_eqBind a.1 a.2⟩
def a_laws_eqBind : List (Nat × LoopAnn) := []
theorem e_laws_eqBind : fnDen ⟨tis, fns_249, [], false⟩ a_laws_eqBind Tryz.f128 (codeOf Tryz.f128) [.val true cBind false, .val true cBind false] [.val false (.one .bool) true] = fun a => laws_eqBind a.1 a.2 := by kernel_rfl
theorem m_laws_eqBind : Meets Tryz.prog 128 F_laws_eqBind := by
  have h := meets_of (ann := a_laws_eqBind) (ps := [.val true cBind false, .val true cBind false]) (rs := [.val false (.one .bool) true]) g_249 mixed Tryz.func128 (by kernel_rfl) (by kernel_rfl : Tryz.f128.body = some (codeOf Tryz.f128))
  rw [e_laws_eqBind] at h
  exact h
noncomputable def fns_128 : List (FuncId × Fn) := (128, F_laws_eqBind) :: fns_249
theorem g_128 : Good Tryz.prog ⟨tis, fns_128, [], false⟩ := g_249.cons m_laws_eqBind
noncomputable def laws_eqBindS_l0 (a0 : List Bind) (b1 : List Bind) (i5 : Int) : Option (Int ⊕ (Unit ⊕ Bool)) :=
  cond (decide (i5 < (a0.length : Int)))
    ((at? a0 i5).bind fun x19 =>
    (at? b1 i5).bind fun x23 =>
    (laws_eqBind x19 x23).bind fun t25 =>
    cond (!t25) (some (.inr (.inr false))) (some (.inl (w64 (i5 + 1)))))
    (some (.inr (.inl ())))
noncomputable def laws_eqBindS (a0 : List Bind) (b1 : List Bind) : Option Bool :=
  cond ((a0.length : Int) != (b1.length : Int))
    (some false)
    ((loop (fun z => laws_eqBindS_l0 a0 b1 z) 0).bind (Sum.elim (fun d =>
      some true) (fun r => some r)))
noncomputable def F_laws_eqBindS : Fn := ⟨[.val false (.one (.sl cBind)) false, .val false (.one (.sl cBind)) false], [.val false (.one .bool) true], fun a => laws_eqBindS a.1 a.2⟩
def a_laws_eqBindS : List (Nat × LoopAnn) := [(0, ⟨⟨[(5, false, [.dat (.int .i64)])], []⟩,
    ⟨[], []⟩, some ⟨[(4, false, [.dat .bool])], []⟩⟩)]
theorem e_laws_eqBindS : fnDen ⟨tis, fns_128, [], false⟩ a_laws_eqBindS Tryz.f45 (codeOf Tryz.f45) [.val false (.one (.sl cBind)) false, .val false (.one (.sl cBind)) false] [.val false (.one .bool) true] = fun a => laws_eqBindS a.1 a.2 := by kernel_rfl
theorem m_laws_eqBindS : Meets Tryz.prog 45 F_laws_eqBindS := by
  have h := meets_of (ann := a_laws_eqBindS) (ps := [.val false (.one (.sl cBind)) false, .val false (.one (.sl cBind)) false]) (rs := [.val false (.one .bool) true]) g_128 mixed Tryz.func45 (by kernel_rfl) (by kernel_rfl : Tryz.f45.body = some (codeOf Tryz.f45))
  rw [e_laws_eqBindS] at h
  exact h
noncomputable def fns_45 : List (FuncId × Fn) := (45, F_laws_eqBindS) :: fns_128
theorem g_45 : Good Tryz.prog ⟨tis, fns_45, [], false⟩ := g_128.cons m_laws_eqBindS
noncomputable def laws_eqPdu (a0 : Pdu) (b1 : Pdu) : Option Bool :=
  cond (a0.1 != b1.1)
    (some false)
    (cond (a0.2.1 != b1.2.1)
      (some false)
      (cond (a0.2.2.1 != b1.2.2.1)
        (some false)
        (cond (a0.2.2.2.1 != b1.2.2.2.1)
          (some false)
          ((laws_eqBindS a0.2.2.2.2 b1.2.2.2.2).bind fun t29 =>
          cond (!t29) (some false) (some true)))))
noncomputable def F_laws_eqPdu : Fn := ⟨[.val true cPdu false, .val true cPdu false], [.val false (.one .bool) true], fun a => laws_eqPdu a.1 a.2⟩
def a_laws_eqPdu : List (Nat × LoopAnn) := []
theorem e_laws_eqPdu : fnDen ⟨tis, fns_45, [], false⟩ a_laws_eqPdu Tryz.f338 (codeOf Tryz.f338) [.val true cPdu false, .val true cPdu false] [.val false (.one .bool) true] = fun a => laws_eqPdu a.1 a.2 := by kernel_rfl
theorem m_laws_eqPdu : Meets Tryz.prog 338 F_laws_eqPdu := by
  have h := meets_of (ann := a_laws_eqPdu) (ps := [.val true cPdu false, .val true cPdu false]) (rs := [.val false (.one .bool) true]) g_45 mixed Tryz.func338 (by kernel_rfl) (by kernel_rfl : Tryz.f338.body = some (codeOf Tryz.f338))
  rw [e_laws_eqPdu] at h
  exact h
noncomputable def fns_338 : List (FuncId × Fn) := (338, F_laws_eqPdu) :: fns_45
theorem g_338 : Good Tryz.prog ⟨tis, fns_338, [], false⟩ := g_45.cons m_laws_eqPdu
noncomputable def laws_eqJob (a0 : Job) (b1 : Job) : Option Bool :=
  cond (a0.1 != b1.1)
    (some false)
    ((laws_eqByteS a0.2.1 b1.2.1).bind fun t14 =>
    cond (!t14)
      (some false)
      (cond (a0.2.2.1 != b1.2.2.1)
        (some false)
        ((laws_eqPdu (a0.2.2.2.1, a0.2.2.2.2.1, a0.2.2.2.2.2.1, a0.2.2.2.2.2.2.1, a0.2.2.2.2.2.2.2.1) (b1.2.2.2.1, b1.2.2.2.2.1, b1.2.2.2.2.2.1, b1.2.2.2.2.2.2.1, b1.2.2.2.2.2.2.2.1)).bind fun t25 =>
        cond (!t25)
          (some false)
          ((laws_eqBridge (a0.2.2.2.2.2.2.2.2.1, a0.2.2.2.2.2.2.2.2.2.1, a0.2.2.2.2.2.2.2.2.2.2.1, a0.2.2.2.2.2.2.2.2.2.2.2.1, a0.2.2.2.2.2.2.2.2.2.2.2.2.1, a0.2.2.2.2.2.2.2.2.2.2.2.2.2.1, a0.2.2.2.2.2.2.2.2.2.2.2.2.2.2.1, a0.2.2.2.2.2.2.2.2.2.2.2.2.2.2.2.1, a0.2.2.2.2.2.2.2.2.2.2.2.2.2.2.2.2.1, a0.2.2.2.2.2.2.2.2.2.2.2.2.2.2.2.2.2.1, a0.2.2.2.2.2.2.2.2.2.2.2.2.2.2.2.2.2.2.1) (b1.2.2.2.2.2.2.2.2.1, b1.2.2.2.2.2.2.2.2.2.1, b1.2.2.2.2.2.2.2.2.2.2.1, b1.2.2.2.2.2.2.2.2.2.2.2.1, b1.2.2.2.2.2.2.2.2.2.2.2.2.1, b1.2.2.2.2.2.2.2.2.2.2.2.2.2.1, b1.2.2.2.2.2.2.2.2.2.2.2.2.2.2.1, b1.2.2.2.2.2.2.2.2.2.2.2.2.2.2.2.1, b1.2.2.2.2.2.2.2.2.2.2.2.2.2.2.2.2.1, b1.2.2.2.2.2.2.2.2.2.2.2.2.2.2.2.2.2.1, b1.2.2.2.2.2.2.2.2.2.2.2.2.2.2.2.2.2.2.1)).bind fun t31 =>
          cond (!t31)
            (some false)
            (cond (a0.2.2.2.2.2.2.2.2.2.2.2.2.2.2.2.2.2.2.2.1 != b1.2.2.2.2.2.2.2.2.2.2.2.2.2.2.2.2.2.2.2.1)
              (some false)
              (cond (a0.2.2.2.2.2.2.2.2.2.2.2.2.2.2.2.2.2.2.2.2 != b1.2.2.2.2.2.2.2.2.2.2.2.2.2.2.2.2.2.2.2.2) (some false) (some true)))))))
noncomputable def F_laws_eqJob : Fn := ⟨[.val true cJob false, .val true cJob false], [.val false (.one .bool) true], fun a => laws_eqJob a.1 a.2⟩
def a_laws_eqJob : List (Nat × LoopAnn) := []
theorem e_laws_eqJob : fnDen ⟨tis, fns_338, [], false⟩ a_laws_eqJob Tryz.f269 (codeOf Tryz.f269) [.val true cJob false, .val true cJob false] [.val false (.one .bool) true] = fun a => laws_eqJob a.1 a.2 := by kernel_rfl
theorem m_laws_eqJob : Meets Tryz.prog 269 F_laws_eqJob := by
  have h := meets_of (ann := a_laws_eqJob) (ps := [.val true cJob false, .val true cJob false]) (rs := [.val false (.one .bool) true]) g_338 mixed Tryz.func269 (by kernel_rfl) (by kernel_rfl : Tryz.f269.body = some (codeOf Tryz.f269))
  rw [e_laws_eqJob] at h
  exact h
noncomputable def fns_269 : List (FuncId × Fn) := (269, F_laws_eqJob) :: fns_338
theorem g_269 : Good Tryz.prog ⟨tis, fns_269, [], false⟩ := g_338.cons m_laws_eqJob
noncomputable def laws_eqJobS_l0 (a0 : List Job) (b1 : List Job) (i5 : Int) : Option (Int ⊕ (Unit ⊕ Bool)) :=
  cond (decide (i5 < (a0.length : Int)))
    ((at? a0 i5).bind fun x19 =>
    (at? b1 i5).bind fun x23 =>
    (laws_eqJob x19 x23).bind fun t25 =>
    cond (!t25) (some (.inr (.inr false))) (some (.inl (w64 (i5 + 1)))))
    (some (.inr (.inl ())))
noncomputable def laws_eqJobS (a0 : List Job) (b1 : List Job) : Option Bool :=
  cond ((a0.length : Int) != (b1.length : Int))
    (some false)
    ((loop (fun z => laws_eqJobS_l0 a0 b1 z) 0).bind (Sum.elim (fun d =>
      some true) (fun r => some r)))
noncomputable def F_laws_eqJobS : Fn := ⟨[.val false (.one (.sl cJob)) false, .val false (.one (.sl cJob)) false], [.val false (.one .bool) true], fun a => laws_eqJobS a.1 a.2⟩
def a_laws_eqJobS : List (Nat × LoopAnn) := [(0, ⟨⟨[(5, false, [.dat (.int .i64)])], []⟩,
    ⟨[], []⟩, some ⟨[(4, false, [.dat .bool])], []⟩⟩)]
theorem e_laws_eqJobS : fnDen ⟨tis, fns_269, [], false⟩ a_laws_eqJobS Tryz.f154 (codeOf Tryz.f154) [.val false (.one (.sl cJob)) false, .val false (.one (.sl cJob)) false] [.val false (.one .bool) true] = fun a => laws_eqJobS a.1 a.2 := by kernel_rfl
theorem m_laws_eqJobS : Meets Tryz.prog 154 F_laws_eqJobS := by
  have h := meets_of (ann := a_laws_eqJobS) (ps := [.val false (.one (.sl cJob)) false, .val false (.one (.sl cJob)) false]) (rs := [.val false (.one .bool) true]) g_269 mixed Tryz.func154 (by kernel_rfl) (by kernel_rfl : Tryz.f154.body = some (codeOf Tryz.f154))
  rw [e_laws_eqJobS] at h
  exact h
noncomputable def fns_154 : List (FuncId × Fn) := (154, F_laws_eqJobS) :: fns_269
theorem g_154 : Good Tryz.prog ⟨tis, fns_154, [], false⟩ := g_269.cons m_laws_eqJobS
noncomputable def laws_eqAgent (a0 : Agent) (b1 : Agent) : Option Bool :=
  (laws_eqBridge (a0.1, a0.2.1, a0.2.2.1, a0.2.2.2.1, a0.2.2.2.2.1, a0.2.2.2.2.2.1, a0.2.2.2.2.2.2.1, a0.2.2.2.2.2.2.2.1, a0.2.2.2.2.2.2.2.2.1, a0.2.2.2.2.2.2.2.2.2.1, a0.2.2.2.2.2.2.2.2.2.2.1) (b1.1, b1.2.1, b1.2.2.1, b1.2.2.2.1, b1.2.2.2.2.1, b1.2.2.2.2.2.1, b1.2.2.2.2.2.2.1, b1.2.2.2.2.2.2.2.1, b1.2.2.2.2.2.2.2.2.1, b1.2.2.2.2.2.2.2.2.2.1, b1.2.2.2.2.2.2.2.2.2.2.1)).bind fun t9 =>
  cond (!t9)
    (some false)
    (cond (!(a0.2.2.2.2.2.2.2.2.2.2.2.1 == b1.2.2.2.2.2.2.2.2.2.2.2.1))
      (some false)
      ((laws_eqJobS a0.2.2.2.2.2.2.2.2.2.2.2.2.1 b1.2.2.2.2.2.2.2.2.2.2.2.2.1).bind fun t20 =>
      cond (!t20)
        (some false)
        (cond (a0.2.2.2.2.2.2.2.2.2.2.2.2.2.1 != b1.2.2.2.2.2.2.2.2.2.2.2.2.2.1)
          (some false)
          (cond (a0.2.2.2.2.2.2.2.2.2.2.2.2.2.2 != b1.2.2.2.2.2.2.2.2.2.2.2.2.2.2) (some false) (some true)))))
noncomputable def F_laws_eqAgent : Fn := ⟨[.val true cAgent false, .val true cAgent false], [.val false (.one .bool) true], fun a => laws_eqAgent a.1 a.2⟩
def a_laws_eqAgent : List (Nat × LoopAnn) := []
theorem e_laws_eqAgent : fnDen ⟨tis, fns_154, [], false⟩ a_laws_eqAgent Tryz.f58 (codeOf Tryz.f58) [.val true cAgent false, .val true cAgent false] [.val false (.one .bool) true] = fun a => laws_eqAgent a.1 a.2 := by kernel_rfl
theorem m_laws_eqAgent : Meets Tryz.prog 58 F_laws_eqAgent := by
  have h := meets_of (ann := a_laws_eqAgent) (ps := [.val true cAgent false, .val true cAgent false]) (rs := [.val false (.one .bool) true]) g_154 mixed Tryz.func58 (by kernel_rfl) (by kernel_rfl : Tryz.f58.body = some (codeOf Tryz.f58))
  rw [e_laws_eqAgent] at h
  exact h
noncomputable def fns_58 : List (FuncId × Fn) := (58, F_laws_eqAgent) :: fns_154
theorem g_58 : Good Tryz.prog ⟨tis, fns_58, [], false⟩ := g_154.cons m_laws_eqAgent
noncomputable def spec_l1In (x0 : Int) (least1 : Int) (most2 : Int) : Option Bool :=
  (cond (decide (x0 ≥ least1)) (some (decide (x0 ≤ most2))) (some false)).bind fun t14 =>
  some t14
noncomputable def F_spec_l1In : Fn := ⟨[.val false (.one (.int .i64)) false, .val false (.one (.int .i64)) false, .val false (.one (.int .i64)) false], [.val false (.one .bool) true], fun a => spec_l1In a.1 a.2.1 a.2.2⟩
def a_spec_l1In : List (Nat × LoopAnn) := []
theorem e_spec_l1In : fnDen ⟨tis, fns_58, [], false⟩ a_spec_l1In Tryz.f150 (codeOf Tryz.f150) [.val false (.one (.int .i64)) false, .val false (.one (.int .i64)) false, .val false (.one (.int .i64)) false] [.val false (.one .bool) true] = fun a => spec_l1In a.1 a.2.1 a.2.2 := by kernel_rfl
theorem m_spec_l1In : Meets Tryz.prog 150 F_spec_l1In := by
  have h := meets_of (ann := a_spec_l1In) (ps := [.val false (.one (.int .i64)) false, .val false (.one (.int .i64)) false, .val false (.one (.int .i64)) false]) (rs := [.val false (.one .bool) true]) g_58 mixed Tryz.func150 (by kernel_rfl) (by kernel_rfl : Tryz.f150.body = some (codeOf Tryz.f150))
  rw [e_spec_l1In] at h
  exact h
noncomputable def fns_150 : List (FuncId × Fn) := (150, F_spec_l1In) :: fns_58
theorem g_150 : Good Tryz.prog ⟨tis, fns_150, [], false⟩ := g_58.cons m_spec_l1In
noncomputable def spec_RowAt_l0 (v0 : Vtab) (id1 : Int) (i5 : Int) : Option (Int ⊕ (Unit ⊕ Int)) :=
  cond (decide (i5 < (v0.1.length : Int)))
    ((at? v0.1 i5).bind fun x16 =>
    cond (x16.1 == id1) (some (.inr (.inr i5))) (some (.inl (w64 (i5 + 1)))))
    (some (.inr (.inl ())))
noncomputable def spec_RowAt (v0 : Vtab) (id1 : Int) : Option Int :=
  (loop (fun z => spec_RowAt_l0 v0 id1 z) 0).bind (Sum.elim (fun d =>
    some (-1)) (fun r => some r))
noncomputable def F_spec_RowAt : Fn := ⟨[.val true cVtab false, .val false (.one (.int .i64)) false], [.val false (.one (.int .i64)) true], fun a => spec_RowAt a.1 a.2⟩
def a_spec_RowAt : List (Nat × LoopAnn) := [(0, ⟨⟨[(5, false, [.dat (.int .i64)])], []⟩,
    ⟨[], []⟩, some ⟨[(4, false, [.dat (.int .i64)])], []⟩⟩)]
theorem e_spec_RowAt : fnDen ⟨tis, fns_150, [], false⟩ a_spec_RowAt Tryz.f220 (codeOf Tryz.f220) [.val true cVtab false, .val false (.one (.int .i64)) false] [.val false (.one (.int .i64)) true] = fun a => spec_RowAt a.1 a.2 := by kernel_rfl
theorem m_spec_RowAt : Meets Tryz.prog 220 F_spec_RowAt := by
  have h := meets_of (ann := a_spec_RowAt) (ps := [.val true cVtab false, .val false (.one (.int .i64)) false]) (rs := [.val false (.one (.int .i64)) true]) g_150 mixed Tryz.func220 (by kernel_rfl) (by kernel_rfl : Tryz.f220.body = some (codeOf Tryz.f220))
  rw [e_spec_RowAt] at h
  exact h
noncomputable def fns_220 : List (FuncId × Fn) := (220, F_spec_RowAt) :: fns_150
theorem g_220 : Good Tryz.prog ⟨tis, fns_220, [], false⟩ := g_150.cons m_spec_RowAt
noncomputable def spec_VtabOk_l0 (p0 : Vtab) (t27 : Int) (t6 : Int) : Option (Int ⊕ (Unit ⊕ Bool)) :=
  cond (decide (t6 < (p0.1.length : Int)))
    ((at? p0.1 t6).bind fun x39 =>
    (spec_l1In x39.1 1 99).bind fun t43 =>
    (cond (!t43)
      (some true)
      ((spec_l1In x39.2.1 0 (w64 (t27 - 1))).bind fun t49 =>
      some (!t49))).bind fun t51 =>
    (cond t51
      (some true)
      ((spec_l1In x39.2.2 0 (w64 (t27 - 1))).bind fun t56 =>
      some (!t56))).bind fun t58 =>
    (cond t58 (some true) (some ((band .i64 x39.2.2 x39.2.1) != x39.2.2))).bind fun t68 =>
    (cond t68
      (some true)
      ((cond (decide (t6 > 0))
        ((at? p0.1 (w64 (t6 - 1))).bind fun x77 =>
        some (decide (x77.1 ≥ x39.1)))
        (some false)).bind fun t83 =>
      some t83)).bind fun t84 =>
    cond t84 (some (.inr (.inr false))) (some (.inl (w64 (t6 + 1)))))
    (some (.inr (.inl ())))
noncomputable def spec_VtabOk_l2 (p0 : Vtab) (t8 : Int) : Option (Int ⊕ (Unit ⊕ Bool)) :=
  cond (decide (t8 < (p0.2.length : Int)))
    ((at? p0.2 t8).bind fun x96 =>
    (spec_RowAt p0 x96).bind fun t98 =>
    cond (decide (t98 < 0)) (some (.inr (.inr false))) (some (.inl (w64 (t8 + 1)))))
    (some (.inr (.inl ())))
noncomputable def spec_VtabOk (p0 : Vtab) (i1 : Int) : Option Bool :=
  (spec_l1In i1 1 6).bind fun t10 =>
  (cond (!t10) (some true) (some ((p0.2.length : Int) != i1))).bind fun t18 =>
  (cond t18 (some true) (some (decide ((p0.1.length : Int) > 6)))).bind fun t24 =>
  cond t24
    (some false)
    ((shl .i64 1 (IntKind.u64.wrap (i1))).bind fun t27 =>
    (loop (fun z => spec_VtabOk_l0 p0 t27 z) 0).bind (Sum.elim (fun d =>
      (loop (fun z => spec_VtabOk_l2 p0 z) 0).bind (Sum.elim (fun d_1 =>
        some true) (fun r => some r))) (fun r_1 => some r_1)))
noncomputable def F_spec_VtabOk : Fn := ⟨[.val true cVtab false, .val false (.one (.int .i64)) false], [.val false (.one .bool) true], fun a => spec_VtabOk a.1 a.2⟩
def a_spec_VtabOk : List (Nat × LoopAnn) := [(0, ⟨⟨[(6, false, [.dat (.int .i64)]), (46, false, [.undef]), (47, false, [.undef]), (48, false, [.undef]), (49, false, [.undef]), (50, false, [.undef]), (53, false, [.undef]), (54, false, [.undef]), (55, false, [.undef]), (56, false, [.undef]), (57, false, [.undef]), (60, false, [.undef]), (61, false, [.undef]), (62, false, [.undef]), (63, false, [.undef]), (64, false, [.undef]), (65, false, [.undef]), (66, false, [.undef]), (67, false, [.undef]), (70, false, [.undef]), (71, false, [.undef]), (72, false, [.undef]), (73, false, [.undef]), (74, false, [.undef]), (75, false, [.undef]), (76, false, [.undef]), (77, false, [.undef]), (78, false, [.undef]), (79, false, [.undef]), (80, false, [.undef]), (81, false, [.undef]), (82, false, [.undef]), (83, false, [.undef])], []⟩,
    ⟨[], []⟩, some ⟨[(4, false, [.dat .bool])], []⟩⟩),
  (2, ⟨⟨[(8, false, [.dat (.int .i64)])], []⟩,
    ⟨[], []⟩, some ⟨[(4, false, [.dat .bool])], []⟩⟩)]
theorem e_spec_VtabOk : fnDen ⟨tis, fns_220, [], false⟩ a_spec_VtabOk Tryz.f97 (codeOf Tryz.f97) [.val true cVtab false, .val false (.one (.int .i64)) false] [.val false (.one .bool) true] = fun a => spec_VtabOk a.1 a.2 := by kernel_rfl
theorem m_spec_VtabOk : Meets Tryz.prog 97 F_spec_VtabOk := by
  have h := meets_of (ann := a_spec_VtabOk) (ps := [.val true cVtab false, .val false (.one (.int .i64)) false]) (rs := [.val false (.one .bool) true]) g_220 mixed Tryz.func97 (by kernel_rfl) (by kernel_rfl : Tryz.f97.body = some (codeOf Tryz.f97))
  rw [e_spec_VtabOk] at h
  exact h
noncomputable def fns_97 : List (FuncId × Fn) := (97, F_spec_VtabOk) :: fns_220
theorem g_97 : Good Tryz.prog ⟨tis, fns_97, [], false⟩ := g_220.cons m_spec_VtabOk
noncomputable def spec_VecOk (v0 : Vec) : Option Bool :=
  (spec_l1In v0.1 1 99).bind fun t5 =>
  (cond t5
    ((spec_l1In v0.2.1 0 100000).bind fun t9 =>
    some t9)
    (some false)).bind fun t10 =>
  (cond t10
    ((spec_l1In v0.2.2.1 0 10).bind fun t14 =>
    some t14)
    (some false)).bind fun t15 =>
  (cond t15
    ((spec_l1In v0.2.2.2.1 1 99).bind fun t19 =>
    some t19)
    (some false)).bind fun t20 =>
  (cond t20
    ((spec_l1In v0.2.2.2.2 0 7).bind fun t24 =>
    some t24)
    (some false)).bind fun t25 =>
  some t25
noncomputable def F_spec_VecOk : Fn := ⟨[.val true cVec false], [.val false (.one .bool) true], fun a => spec_VecOk a⟩
def a_spec_VecOk : List (Nat × LoopAnn) := []
theorem e_spec_VecOk : fnDen ⟨tis, fns_97, [], false⟩ a_spec_VecOk Tryz.f255 (codeOf Tryz.f255) [.val true cVec false] [.val false (.one .bool) true] = fun a => spec_VecOk a := by kernel_rfl
theorem m_spec_VecOk : Meets Tryz.prog 255 F_spec_VecOk := by
  have h := meets_of (ann := a_spec_VecOk) (ps := [.val true cVec false]) (rs := [.val false (.one .bool) true]) g_97 mixed Tryz.func255 (by kernel_rfl) (by kernel_rfl : Tryz.f255.body = some (codeOf Tryz.f255))
  rw [e_spec_VecOk] at h
  exact h
noncomputable def fns_255 : List (FuncId × Fn) := (255, F_spec_VecOk) :: fns_97
theorem g_255 : Good Tryz.prog ⟨tis, fns_255, [], false⟩ := g_97.cons m_spec_VecOk
noncomputable def spec_PtOk (p0 : Pt) : Option Bool :=
  (spec_l1In p0.2.1 1 1000).bind fun t5 =>
  (cond (!t5)
    (some true)
    ((cond (!p0.1) (some p0.2.2.1) (some false)).bind fun t14 =>
    some t14)).bind fun t15 =>
  cond t15
    (some false)
    (cond (!p0.2.2.1)
      (let t2 := p0.2.2.2.1 == 0 && (p0.2.2.2.2.1 == 0 && (p0.2.2.2.2.2.1 == 0 && (p0.2.2.2.2.2.2.1 == 0 && (p0.2.2.2.2.2.2.2 == 0))))
      some t2)
      ((spec_VecOk p0.2.2.2).bind fun t25 =>
      some t25))
noncomputable def F_spec_PtOk : Fn := ⟨[.val true cPt false], [.val false (.one .bool) true], fun a => spec_PtOk a⟩
def a_spec_PtOk : List (Nat × LoopAnn) := []
theorem e_spec_PtOk : fnDen ⟨tis, fns_255, [], false⟩ a_spec_PtOk Tryz.f213 (codeOf Tryz.f213) [.val true cPt false] [.val false (.one .bool) true] = fun a => spec_PtOk a := by kernel_rfl
theorem m_spec_PtOk : Meets Tryz.prog 213 F_spec_PtOk := by
  have h := meets_of (ann := a_spec_PtOk) (ps := [.val true cPt false]) (rs := [.val false (.one .bool) true]) g_255 mixed Tryz.func213 (by kernel_rfl) (by kernel_rfl : Tryz.f213.body = some (codeOf Tryz.f213))
  rw [e_spec_PtOk] at h
  exact h
noncomputable def fns_213 : List (FuncId × Fn) := (213, F_spec_PtOk) :: fns_255
theorem g_213 : Good Tryz.prog ⟨tis, fns_213, [], false⟩ := g_255.cons m_spec_PtOk
noncomputable def spec_l8Ent (e0 : Fent) : Option Bool :=
  (spec_l1In e0.1 1 99).bind fun t5 =>
  (cond t5
    ((spec_l1In e0.2.1 1 9999).bind fun t9 =>
    some t9)
    (some false)).bind fun t10 =>
  (cond t10
    ((spec_l1In e0.2.2.1 0 7).bind fun t14 =>
    some t14)
    (some false)).bind fun t15 =>
  (cond t15
    ((spec_l1In e0.2.2.2.1 0 4).bind fun t19 =>
    some t19)
    (some false)).bind fun t20 =>
  (cond t20
    ((cond (!e0.2.2.2.2) (some true) (some (e0.2.2.2.1 == 0))).bind fun t29 =>
    some t29)
    (some false)).bind fun t30 =>
  some t30
noncomputable def F_spec_l8Ent : Fn := ⟨[.val true cFent false], [.val false (.one .bool) true], fun a => spec_l8Ent a⟩
def a_spec_l8Ent : List (Nat × LoopAnn) := []
theorem e_spec_l8Ent : fnDen ⟨tis, fns_213, [], false⟩ a_spec_l8Ent Tryz.f301 (codeOf Tryz.f301) [.val true cFent false] [.val false (.one .bool) true] = fun a => spec_l8Ent a := by kernel_rfl
theorem m_spec_l8Ent : Meets Tryz.prog 301 F_spec_l8Ent := by
  have h := meets_of (ann := a_spec_l8Ent) (ps := [.val true cFent false]) (rs := [.val false (.one .bool) true]) g_213 mixed Tryz.func301 (by kernel_rfl) (by kernel_rfl : Tryz.f301.body = some (codeOf Tryz.f301))
  rw [e_spec_l8Ent] at h
  exact h
noncomputable def fns_301 : List (FuncId × Fn) := (301, F_spec_l8Ent) :: fns_213
theorem g_301 : Good Tryz.prog ⟨tis, fns_301, [], false⟩ := g_213.cons m_spec_l8Ent
noncomputable def spec_l8Ahead (e0 : Fent) (tag1 : Int) (mac2 : Int) : Option Bool :=
  cond (e0.1 != tag1) (some (decide (e0.1 < tag1))) (some (decide (e0.2.1 < mac2)))
noncomputable def F_spec_l8Ahead : Fn := ⟨[.val true cFent false, .val false (.one (.int .i64)) false, .val false (.one (.int .i64)) false], [.val false (.one .bool) true], fun a => spec_l8Ahead a.1 a.2.1 a.2.2⟩
def a_spec_l8Ahead : List (Nat × LoopAnn) := []
theorem e_spec_l8Ahead : fnDen ⟨tis, fns_301, [], false⟩ a_spec_l8Ahead Tryz.f310 (codeOf Tryz.f310) [.val true cFent false, .val false (.one (.int .i64)) false, .val false (.one (.int .i64)) false] [.val false (.one .bool) true] = fun a => spec_l8Ahead a.1 a.2.1 a.2.2 := by kernel_rfl
theorem m_spec_l8Ahead : Meets Tryz.prog 310 F_spec_l8Ahead := by
  have h := meets_of (ann := a_spec_l8Ahead) (ps := [.val true cFent false, .val false (.one (.int .i64)) false, .val false (.one (.int .i64)) false]) (rs := [.val false (.one .bool) true]) g_301 mixed Tryz.func310 (by kernel_rfl) (by kernel_rfl : Tryz.f310.body = some (codeOf Tryz.f310))
  rw [e_spec_l8Ahead] at h
  exact h
noncomputable def fns_310 : List (FuncId × Fn) := (310, F_spec_l8Ahead) :: fns_301
theorem g_310 : Good Tryz.prog ⟨tis, fns_310, [], false⟩ := g_301.cons m_spec_l8Ahead
noncomputable def spec_FdbOk_l0 (l0 : List Fent) (i3 : Int) : Option (Int ⊕ (Unit ⊕ Bool)) :=
  cond (decide (i3 < (l0.length : Int)))
    ((at? l0 i3).bind fun x12 =>
    (spec_l8Ent x12).bind fun t14 =>
    (cond (!t14)
      (some true)
      ((cond (decide (i3 > 0))
        ((at? l0 (w64 (i3 - 1))).bind fun x23 =>
        (at? l0 i3).bind fun x27 =>
        (at? l0 i3).bind fun x32 =>
        (spec_l8Ahead x23 x27.1 x32.2.1).bind fun t35 =>
        some (!t35))
        (some false)).bind fun t37 =>
      some t37)).bind fun t38 =>
    cond t38 (some (.inr (.inr false))) (some (.inl (w64 (i3 + 1)))))
    (some (.inr (.inl ())))
noncomputable def spec_FdbOk (l0 : List Fent) : Option Bool :=
  (loop (fun z => spec_FdbOk_l0 l0 z) 0).bind (Sum.elim (fun d =>
    let t2 := decide ((l0.length : Int) ≤ 12)
    some t2) (fun r => some r))
noncomputable def F_spec_FdbOk : Fn := ⟨[.val false (.one (.sl cFent)) false], [.val false (.one .bool) true], fun a => spec_FdbOk a⟩
def a_spec_FdbOk : List (Nat × LoopAnn) := [(0, ⟨⟨[(3, false, [.dat (.int .i64)]), (17, false, [.undef]), (18, false, [.undef]), (19, false, [.undef]), (20, false, [.undef]), (21, false, [.undef]), (22, false, [.undef]), (23, false, [.undef]), (24, false, [.undef]), (25, false, [.undef]), (26, false, [.undef]), (27, false, [.undef]), (28, false, [.undef]), (29, false, [.undef]), (30, false, [.undef]), (31, false, [.undef]), (32, false, [.undef]), (33, false, [.undef]), (34, false, [.undef]), (35, false, [.undef]), (36, false, [.undef]), (37, false, [.undef])], []⟩,
    ⟨[], []⟩, some ⟨[(2, false, [.dat .bool])], []⟩⟩)]
theorem e_spec_FdbOk : fnDen ⟨tis, fns_310, [], false⟩ a_spec_FdbOk Tryz.f214 (codeOf Tryz.f214) [.val false (.one (.sl cFent)) false] [.val false (.one .bool) true] = fun a => spec_FdbOk a := by kernel_rfl
theorem m_spec_FdbOk : Meets Tryz.prog 214 F_spec_FdbOk := by
  have h := meets_of (ann := a_spec_FdbOk) (ps := [.val false (.one (.sl cFent)) false]) (rs := [.val false (.one .bool) true]) g_310 mixed Tryz.func214 (by kernel_rfl) (by kernel_rfl : Tryz.f214.body = some (codeOf Tryz.f214))
  rw [e_spec_FdbOk] at h
  exact h
noncomputable def fns_214 : List (FuncId × Fn) := (214, F_spec_FdbOk) :: fns_310
theorem g_214 : Good Tryz.prog ⟨tis, fns_214, [], false⟩ := g_310.cons m_spec_FdbOk
noncomputable def spec_l11Counts (b0 : Bridge) : Option Bool :=
  (spec_l1In b0.2.2.2.2.2.2.1 0 1000000).bind fun t5 =>
  (cond t5
    ((spec_l1In b0.2.2.2.2.2.2.2.1 0 1000000).bind fun t9 =>
    some t9)
    (some false)).bind fun t10 =>
  (cond t10
    ((spec_l1In b0.2.2.2.2.2.2.2.2.1 0 1000000).bind fun t14 =>
    some t14)
    (some false)).bind fun t15 =>
  (cond t15
    ((spec_l1In b0.2.2.2.2.2.2.2.2.2.1 0 1000000).bind fun t19 =>
    some t19)
    (some false)).bind fun t20 =>
  (cond t20
    ((spec_l1In b0.2.2.2.2.2.2.2.2.2.2 0 1000000).bind fun t24 =>
    some t24)
    (some false)).bind fun t25 =>
  some t25
noncomputable def F_spec_l11Counts : Fn := ⟨[.val true cBridge false], [.val false (.one .bool) true], fun a => spec_l11Counts a⟩
def a_spec_l11Counts : List (Nat × LoopAnn) := []
theorem e_spec_l11Counts : fnDen ⟨tis, fns_214, [], false⟩ a_spec_l11Counts Tryz.f215 (codeOf Tryz.f215) [.val true cBridge false] [.val false (.one .bool) true] = fun a => spec_l11Counts a := by kernel_rfl
theorem m_spec_l11Counts : Meets Tryz.prog 215 F_spec_l11Counts := by
  have h := meets_of (ann := a_spec_l11Counts) (ps := [.val true cBridge false]) (rs := [.val false (.one .bool) true]) g_214 mixed Tryz.func215 (by kernel_rfl) (by kernel_rfl : Tryz.f215.body = some (codeOf Tryz.f215))
  rw [e_spec_l11Counts] at h
  exact h
noncomputable def fns_215 : List (FuncId × Fn) := (215, F_spec_l11Counts) :: fns_214
theorem g_215 : Good Tryz.prog ⟨tis, fns_215, [], false⟩ := g_214.cons m_spec_l11Counts
noncomputable def spec_BridgeOk_l0 (b0 : Bridge) (i3 : Int) : Option (Int ⊕ (Unit ⊕ Bool)) :=
  cond (decide (i3 < (b0.2.2.1.length : Int)))
    ((at? b0.2.2.1 i3).bind fun x14 =>
    (spec_PtOk x14).bind fun t16 =>
    cond (!t16) (some (.inr (.inr false))) (some (.inl (w64 (i3 + 1)))))
    (some (.inr (.inl ())))
noncomputable def spec_BridgeOk (b0 : Bridge) : Option Bool :=
  (loop (fun z => spec_BridgeOk_l0 b0 z) 0).bind (Sum.elim (fun d =>
    (spec_l1In b0.1 1 99).bind fun t20 =>
    (cond t20 (some (decide ((b0.2.1.length : Int) ≤ 10))) (some false)).bind fun t26 =>
    (cond t26
      ((spec_l1In (b0.2.2.1.length : Int) 1 6).bind fun t31 =>
      some t31)
      (some false)).bind fun t32 =>
    (cond t32
      ((spec_FdbOk b0.2.2.2.1).bind fun t36 =>
      some t36)
      (some false)).bind fun t37 =>
    (cond t37
      ((spec_VtabOk (b0.2.2.2.2.1, b0.2.2.2.2.2.1) (b0.2.2.1.length : Int)).bind fun t44 =>
      some t44)
      (some false)).bind fun t45 =>
    (cond t45
      ((spec_l11Counts b0).bind fun t48 =>
      some t48)
      (some false)).bind fun t49 =>
    some t49) (fun r => some r))
noncomputable def F_spec_BridgeOk : Fn := ⟨[.val true cBridge false], [.val false (.one .bool) true], fun a => spec_BridgeOk a⟩
def a_spec_BridgeOk : List (Nat × LoopAnn) := [(0, ⟨⟨[(3, false, [.dat (.int .i64)])], []⟩,
    ⟨[], []⟩, some ⟨[(2, false, [.dat .bool])], []⟩⟩)]
theorem e_spec_BridgeOk : fnDen ⟨tis, fns_215, [], false⟩ a_spec_BridgeOk Tryz.f94 (codeOf Tryz.f94) [.val true cBridge false] [.val false (.one .bool) true] = fun a => spec_BridgeOk a := by kernel_rfl
theorem m_spec_BridgeOk : Meets Tryz.prog 94 F_spec_BridgeOk := by
  have h := meets_of (ann := a_spec_BridgeOk) (ps := [.val true cBridge false]) (rs := [.val false (.one .bool) true]) g_215 mixed Tryz.func94 (by kernel_rfl) (by kernel_rfl : Tryz.f94.body = some (codeOf Tryz.f94))
  rw [e_spec_BridgeOk] at h
  exact h
noncomputable def fns_94 : List (FuncId × Fn) := (94, F_spec_BridgeOk) :: fns_215
theorem g_94 : Good Tryz.prog ⟨tis, fns_94, [], false⟩ := g_215.cons m_spec_BridgeOk
noncomputable def spec_l1Clip (n0 : Int) : Option Int :=
  cond (decide (n0 > 2147483647))
    (some 2147483647)
    (cond (decide (n0 < (-2147483648))) (some (-2147483648)) (some n0))
noncomputable def F_spec_l1Clip : Fn := ⟨[.val false (.one (.int .i64)) false], [.val false (.one (.int .i64)) true], fun a => spec_l1Clip a⟩
def a_spec_l1Clip : List (Nat × LoopAnn) := []
theorem e_spec_l1Clip : fnDen ⟨tis, fns_94, [], false⟩ a_spec_l1Clip Tryz.f316 (codeOf Tryz.f316) [.val false (.one (.int .i64)) false] [.val false (.one (.int .i64)) true] = fun a => spec_l1Clip a := by kernel_rfl
theorem m_spec_l1Clip : Meets Tryz.prog 316 F_spec_l1Clip := by
  have h := meets_of (ann := a_spec_l1Clip) (ps := [.val false (.one (.int .i64)) false]) (rs := [.val false (.one (.int .i64)) true]) g_94 mixed Tryz.func316 (by kernel_rfl) (by kernel_rfl : Tryz.f316.body = some (codeOf Tryz.f316))
  rw [e_spec_l1Clip] at h
  exact h
noncomputable def fns_316 : List (FuncId × Fn) := (316, F_spec_l1Clip) :: fns_94
theorem g_316 : Good Tryz.prog ⟨tis, fns_316, [], false⟩ := g_94.cons m_spec_l1Clip
noncomputable def spec_OidOk_l0 (o0 : List Int) (i3 : Int) : Option (Int ⊕ (Unit ⊕ Bool)) :=
  cond (decide (i3 < (o0.length : Int)))
    ((at? o0 i3).bind fun x12 =>
    (spec_l1In x12 0 100000).bind fun t14 =>
    cond (!t14) (some (.inr (.inr false))) (some (.inl (w64 (i3 + 1)))))
    (some (.inr (.inl ())))
noncomputable def spec_OidOk (o0 : List Int) : Option Bool :=
  (loop (fun z => spec_OidOk_l0 o0 z) 0).bind (Sum.elim (fun d =>
    (spec_l1In (o0.length : Int) 1 10).bind fun t18 =>
    some t18) (fun r => some r))
noncomputable def F_spec_OidOk : Fn := ⟨[.val false (.one (.sl (.one (.int .i64)))) false], [.val false (.one .bool) true], fun a => spec_OidOk a⟩
def a_spec_OidOk : List (Nat × LoopAnn) := [(0, ⟨⟨[(3, false, [.dat (.int .i64)])], []⟩,
    ⟨[], []⟩, some ⟨[(2, false, [.dat .bool])], []⟩⟩)]
theorem e_spec_OidOk : fnDen ⟨tis, fns_316, [], false⟩ a_spec_OidOk Tryz.f360 (codeOf Tryz.f360) [.val false (.one (.sl (.one (.int .i64)))) false] [.val false (.one .bool) true] = fun a => spec_OidOk a := by kernel_rfl
theorem m_spec_OidOk : Meets Tryz.prog 360 F_spec_OidOk := by
  have h := meets_of (ann := a_spec_OidOk) (ps := [.val false (.one (.sl (.one (.int .i64)))) false]) (rs := [.val false (.one .bool) true]) g_316 mixed Tryz.func360 (by kernel_rfl) (by kernel_rfl : Tryz.f360.body = some (codeOf Tryz.f360))
  rw [e_spec_OidOk] at h
  exact h
noncomputable def fns_360 : List (FuncId × Fn) := (360, F_spec_OidOk) :: fns_316
theorem g_360 : Good Tryz.prog ⟨tis, fns_360, [], false⟩ := g_316.cons m_spec_OidOk
noncomputable def spec_ValOk (p0 : Val) : Option Bool :=
  cond (p0.1 == 5)
    (cond (p0.1 == 5)
      ((cond (p0.2.1 == 0) (some (p0.2.2.1 == [])) (some false)).bind fun t16 =>
      (cond t16 (some ((p0.2.2.2.length : Int) == 0)) (some false)).bind fun t22 =>
      some t22)
      (cond (p0.1 == 2)
        ((spec_l1Clip p0.2.1).bind fun t27 =>
        (cond (t27 == p0.2.1) (some (p0.2.2.1 == [])) (some false)).bind fun t35 =>
        (cond t35 (some ((p0.2.2.2.length : Int) == 0)) (some false)).bind fun t41 =>
        some t41)
        (cond (p0.1 == 4)
          ((cond (decide ((p0.2.2.1.length : Int) ≤ 20)) (some (p0.2.1 == 0)) (some false)).bind fun t52 =>
          (cond t52 (some ((p0.2.2.2.length : Int) == 0)) (some false)).bind fun t58 =>
          some t58)
          (cond (p0.1 == 6)
            ((spec_OidOk p0.2.2.2).bind fun t63 =>
            (cond t63 (some (p0.2.1 == 0)) (some false)).bind fun t68 =>
            (cond t68 (some (p0.2.2.1 == [])) (some false)).bind fun t73 =>
            some t73)
            (some false)))))
    (cond (p0.1 == 128)
      (cond (p0.1 == 128)
        ((cond (p0.2.1 == 0) (some (p0.2.2.1 == [])) (some false)).bind fun t16_1 =>
        (cond t16_1 (some ((p0.2.2.2.length : Int) == 0)) (some false)).bind fun t22_1 =>
        some t22_1)
        (cond (p0.1 == 2)
          ((spec_l1Clip p0.2.1).bind fun t27_1 =>
          (cond (t27_1 == p0.2.1) (some (p0.2.2.1 == [])) (some false)).bind fun t35_1 =>
          (cond t35_1 (some ((p0.2.2.2.length : Int) == 0)) (some false)).bind fun t41_1 =>
          some t41_1)
          (cond (p0.1 == 4)
            ((cond (decide ((p0.2.2.1.length : Int) ≤ 20)) (some (p0.2.1 == 0)) (some false)).bind fun t52_1 =>
            (cond t52_1 (some ((p0.2.2.2.length : Int) == 0)) (some false)).bind fun t58_1 =>
            some t58_1)
            (cond (p0.1 == 6)
              ((spec_OidOk p0.2.2.2).bind fun t63_1 =>
              (cond t63_1 (some (p0.2.1 == 0)) (some false)).bind fun t68_1 =>
              (cond t68_1 (some (p0.2.2.1 == [])) (some false)).bind fun t73_1 =>
              some t73_1)
              (some false)))))
      (cond (p0.1 == 130)
        ((cond (p0.2.1 == 0) (some (p0.2.2.1 == [])) (some false)).bind fun t16_2 =>
        (cond t16_2 (some ((p0.2.2.2.length : Int) == 0)) (some false)).bind fun t22_2 =>
        some t22_2)
        (cond (p0.1 == 2)
          ((spec_l1Clip p0.2.1).bind fun t27_2 =>
          (cond (t27_2 == p0.2.1) (some (p0.2.2.1 == [])) (some false)).bind fun t35_2 =>
          (cond t35_2 (some ((p0.2.2.2.length : Int) == 0)) (some false)).bind fun t41_2 =>
          some t41_2)
          (cond (p0.1 == 4)
            ((cond (decide ((p0.2.2.1.length : Int) ≤ 20)) (some (p0.2.1 == 0)) (some false)).bind fun t52_2 =>
            (cond t52_2 (some ((p0.2.2.2.length : Int) == 0)) (some false)).bind fun t58_2 =>
            some t58_2)
            (cond (p0.1 == 6)
              ((spec_OidOk p0.2.2.2).bind fun t63_2 =>
              (cond t63_2 (some (p0.2.1 == 0)) (some false)).bind fun t68_2 =>
              (cond t68_2 (some (p0.2.2.1 == [])) (some false)).bind fun t73_2 =>
              some t73_2)
              (some false))))))
noncomputable def F_spec_ValOk : Fn := ⟨[.val true cVal false], [.val false (.one .bool) true], fun a => spec_ValOk a⟩
def a_spec_ValOk : List (Nat × LoopAnn) := []
theorem e_spec_ValOk : fnDen ⟨tis, fns_360, [], false⟩ a_spec_ValOk Tryz.f361 (codeOf Tryz.f361) [.val true cVal false] [.val false (.one .bool) true] = fun a => spec_ValOk a := by kernel_rfl
theorem m_spec_ValOk : Meets Tryz.prog 361 F_spec_ValOk := by
  have h := meets_of (ann := a_spec_ValOk) (ps := [.val true cVal false]) (rs := [.val false (.one .bool) true]) g_360 mixed Tryz.func361 (by kernel_rfl) (by kernel_rfl : Tryz.f361.body = some (codeOf Tryz.f361))
  rw [e_spec_ValOk] at h
  exact h
noncomputable def fns_361 : List (FuncId × Fn) := (361, F_spec_ValOk) :: fns_360
theorem g_361 : Good Tryz.prog ⟨tis, fns_361, [], false⟩ := g_360.cons m_spec_ValOk
noncomputable def spec_l4Kind (k0 : Int) : Option Bool :=
  (cond (k0 == 160) (some true) (some (k0 == 161))).bind fun t8 =>
  (cond t8 (some true) (some (k0 == 162))).bind fun t12 =>
  (cond t12 (some true) (some (k0 == 163))).bind fun t16 =>
  (cond t16 (some true) (some (k0 == 165))).bind fun t20 =>
  some t20
noncomputable def F_spec_l4Kind : Fn := ⟨[.val false (.one (.int .i64)) false], [.val false (.one .bool) true], fun a => spec_l4Kind a⟩
def a_spec_l4Kind : List (Nat × LoopAnn) := []
theorem e_spec_l4Kind : fnDen ⟨tis, fns_361, [], false⟩ a_spec_l4Kind Tryz.f362 (codeOf Tryz.f362) [.val false (.one (.int .i64)) false] [.val false (.one .bool) true] = fun a => spec_l4Kind a := by kernel_rfl
theorem m_spec_l4Kind : Meets Tryz.prog 362 F_spec_l4Kind := by
  have h := meets_of (ann := a_spec_l4Kind) (ps := [.val false (.one (.int .i64)) false]) (rs := [.val false (.one .bool) true]) g_361 mixed Tryz.func362 (by kernel_rfl) (by kernel_rfl : Tryz.f362.body = some (codeOf Tryz.f362))
  rw [e_spec_l4Kind] at h
  exact h
noncomputable def fns_362 : List (FuncId × Fn) := (362, F_spec_l4Kind) :: fns_361
theorem g_362 : Good Tryz.prog ⟨tis, fns_362, [], false⟩ := g_361.cons m_spec_l4Kind
noncomputable def spec_PduOk_l0 (p0 : Pdu) (t3 : Int) : Option (Int ⊕ (Unit ⊕ Bool)) :=
  cond (decide (t3 < (p0.2.2.2.2.length : Int)))
    ((at? p0.2.2.2.2 t3).bind fun x14 =>
    (spec_OidOk x14.1).bind fun t17 =>
    (cond (!t17)
      (some true)
      ((at? p0.2.2.2.2 t3).bind fun x23 =>
      (spec_ValOk x23.2).bind fun t26 =>
      some (!t26))).bind fun t28 =>
    cond t28 (some (.inr (.inr false))) (some (.inl (w64 (t3 + 1)))))
    (some (.inr (.inl ())))
noncomputable def spec_PduOk (p0 : Pdu) : Option Bool :=
  (loop (fun z => spec_PduOk_l0 p0 z) 0).bind (Sum.elim (fun d =>
    (cond (p0.1 != 162) (some (p0.1 != 165)) (some false)).bind fun t36 =>
    (cond t36
      ((cond (p0.2.2.1 != 0) (some true) (some (p0.2.2.2.1 != 0))).bind fun t45 =>
      some t45)
      (some false)).bind fun t46 =>
    cond t46
      (some false)
      ((spec_l4Kind p0.1).bind fun t49 =>
      (cond t49
        ((spec_l1Clip p0.2.1).bind fun t53 =>
        some (t53 == p0.2.1))
        (some false)).bind fun t57 =>
      (cond t57
        ((spec_l1In p0.2.2.1 0 1000).bind fun t61 =>
        some t61)
        (some false)).bind fun t62 =>
      (cond t62
        ((spec_l1In p0.2.2.2.1 0 1000).bind fun t66 =>
        some t66)
        (some false)).bind fun t67 =>
      (cond t67 (some (decide ((p0.2.2.2.2.length : Int) ≤ 10))) (some false)).bind fun t73 =>
      some t73)) (fun r => some r))
noncomputable def F_spec_PduOk : Fn := ⟨[.val true cPdu false], [.val false (.one .bool) true], fun a => spec_PduOk a⟩
def a_spec_PduOk : List (Nat × LoopAnn) := [(0, ⟨⟨[(3, false, [.dat (.int .i64)]), (20, false, [.undef]), (21, false, [.undef]), (22, false, [.undef]), (23, false, [.undef]), (24, false, [.undef]), (25, false, [.undef]), (26, false, [.undef]), (27, false, [.undef])], []⟩,
    ⟨[], []⟩, some ⟨[(2, false, [.dat .bool])], []⟩⟩)]
theorem e_spec_PduOk : fnDen ⟨tis, fns_362, [], false⟩ a_spec_PduOk Tryz.f332 (codeOf Tryz.f332) [.val true cPdu false] [.val false (.one .bool) true] = fun a => spec_PduOk a := by kernel_rfl
theorem m_spec_PduOk : Meets Tryz.prog 332 F_spec_PduOk := by
  have h := meets_of (ann := a_spec_PduOk) (ps := [.val true cPdu false]) (rs := [.val false (.one .bool) true]) g_362 mixed Tryz.func332 (by kernel_rfl) (by kernel_rfl : Tryz.f332.body = some (codeOf Tryz.f332))
  rw [e_spec_PduOk] at h
  exact h
noncomputable def fns_332 : List (FuncId × Fn) := (332, F_spec_PduOk) :: fns_362
theorem g_332 : Good Tryz.prog ⟨tis, fns_332, [], false⟩ := g_362.cons m_spec_PduOk
noncomputable def spec_l20Asks (p0 : Pdu) : Option Bool :=
  (spec_PduOk p0).bind fun t4 =>
  (cond t4 (some (p0.1 != 162)) (some false)).bind fun t9 =>
  some t9
noncomputable def F_spec_l20Asks : Fn := ⟨[.val true cPdu false], [.val false (.one .bool) true], fun a => spec_l20Asks a⟩
def a_spec_l20Asks : List (Nat × LoopAnn) := []
theorem e_spec_l20Asks : fnDen ⟨tis, fns_332, [], false⟩ a_spec_l20Asks Tryz.f329 (codeOf Tryz.f329) [.val true cPdu false] [.val false (.one .bool) true] = fun a => spec_l20Asks a := by kernel_rfl
theorem m_spec_l20Asks : Meets Tryz.prog 329 F_spec_l20Asks := by
  have h := meets_of (ann := a_spec_l20Asks) (ps := [.val true cPdu false]) (rs := [.val false (.one .bool) true]) g_332 mixed Tryz.func329 (by kernel_rfl) (by kernel_rfl : Tryz.f329.body = some (codeOf Tryz.f329))
  rw [e_spec_l20Asks] at h
  exact h
noncomputable def fns_329 : List (FuncId × Fn) := (329, F_spec_l20Asks) :: fns_332
theorem g_329 : Good Tryz.prog ⟨tis, fns_329, [], false⟩ := g_332.cons m_spec_l20Asks
noncomputable def spec_l20Job (j0 : Job) (last1 : Int) : Option Bool :=
  (spec_l1In j0.1 1 last1).bind fun t8 =>
  (cond (!t8)
    (some true)
    ((spec_l1In j0.2.2.1 0 2).bind fun t13 =>
    some (!t13))).bind fun t15 =>
  (cond t15
    (some true)
    ((spec_l1In j0.2.2.2.2.2.2.2.2.2.2.2.2.2.2.2.2.2.2.2.2 0 3).bind fun t19 =>
    some (!t19))).bind fun t21 =>
  (cond t21
    (some true)
    ((spec_l1In j0.2.2.2.2.2.2.2.2.2.2.2.2.2.2.2.2.2.2.2.1 0 (j0.2.2.2.2.2.2.2.1.length : Int)).bind fun t29 =>
    some (!t29))).bind fun t31 =>
  cond t31
    (some false)
    ((cond (j0.2.2.1 == 0)
      (some true)
      ((spec_l20Asks (j0.2.2.2.1, j0.2.2.2.2.1, j0.2.2.2.2.2.1, j0.2.2.2.2.2.2.1, j0.2.2.2.2.2.2.2.1)).bind fun t38 =>
      (cond t38
        ((spec_BridgeOk (j0.2.2.2.2.2.2.2.2.1, j0.2.2.2.2.2.2.2.2.2.1, j0.2.2.2.2.2.2.2.2.2.2.1, j0.2.2.2.2.2.2.2.2.2.2.2.1, j0.2.2.2.2.2.2.2.2.2.2.2.2.1, j0.2.2.2.2.2.2.2.2.2.2.2.2.2.1, j0.2.2.2.2.2.2.2.2.2.2.2.2.2.2.1, j0.2.2.2.2.2.2.2.2.2.2.2.2.2.2.2.1, j0.2.2.2.2.2.2.2.2.2.2.2.2.2.2.2.2.1, j0.2.2.2.2.2.2.2.2.2.2.2.2.2.2.2.2.2.1, j0.2.2.2.2.2.2.2.2.2.2.2.2.2.2.2.2.2.2.1)).bind fun t42 =>
        some t42)
        (some false)).bind fun t43 =>
      some t43)).bind fun t44 =>
    some t44)
noncomputable def F_spec_l20Job : Fn := ⟨[.val true cJob false, .val false (.one (.int .i64)) false], [.val false (.one .bool) true], fun a => spec_l20Job a.1 a.2⟩
def a_spec_l20Job : List (Nat × LoopAnn) := []
theorem e_spec_l20Job : fnDen ⟨tis, fns_329, [], false⟩ a_spec_l20Job Tryz.f262 (codeOf Tryz.f262) [.val true cJob false, .val false (.one (.int .i64)) false] [.val false (.one .bool) true] = fun a => spec_l20Job a.1 a.2 := by kernel_rfl
theorem m_spec_l20Job : Meets Tryz.prog 262 F_spec_l20Job := by
  have h := meets_of (ann := a_spec_l20Job) (ps := [.val true cJob false, .val false (.one (.int .i64)) false]) (rs := [.val false (.one .bool) true]) g_329 mixed Tryz.func262 (by kernel_rfl) (by kernel_rfl : Tryz.f262.body = some (codeOf Tryz.f262))
  rw [e_spec_l20Job] at h
  exact h
noncomputable def fns_262 : List (FuncId × Fn) := (262, F_spec_l20Job) :: fns_329
theorem g_262 : Good Tryz.prog ⟨tis, fns_262, [], false⟩ := g_329.cons m_spec_l20Job
noncomputable def spec_AgentOk_l0 (p0 : Agent) (t3 : Int) : Option (Int ⊕ (Unit ⊕ Bool)) :=
  cond (decide (t3 < (p0.2.2.2.2.2.2.2.2.2.2.2.2.1.length : Int)))
    ((at? p0.2.2.2.2.2.2.2.2.2.2.2.2.1 t3).bind fun x14 =>
    (spec_l20Job x14 p0.2.2.2.2.2.2.2.2.2.2.2.2.2.2).bind fun t18 =>
    (cond (!t18)
      (some true)
      ((cond (decide (t3 > 0))
        ((at? p0.2.2.2.2.2.2.2.2.2.2.2.2.1 (w64 (t3 - 1))).bind fun x28 =>
        (at? p0.2.2.2.2.2.2.2.2.2.2.2.2.1 t3).bind fun x34 =>
        some (decide (x28.1 ≥ x34.1)))
        (some false)).bind fun t38 =>
      some t38)).bind fun t39 =>
    cond t39 (some (.inr (.inr false))) (some (.inl (w64 (t3 + 1)))))
    (some (.inr (.inl ())))
noncomputable def spec_AgentOk (p0 : Agent) : Option Bool :=
  (loop (fun z => spec_AgentOk_l0 p0 z) 0).bind (Sum.elim (fun d =>
    (spec_BridgeOk (p0.1, p0.2.1, p0.2.2.1, p0.2.2.2.1, p0.2.2.2.2.1, p0.2.2.2.2.2.1, p0.2.2.2.2.2.2.1, p0.2.2.2.2.2.2.2.1, p0.2.2.2.2.2.2.2.2.1, p0.2.2.2.2.2.2.2.2.2.1, p0.2.2.2.2.2.2.2.2.2.2.1)).bind fun t42 =>
    (cond t42
      (some (decide ((p0.2.2.2.2.2.2.2.2.2.2.2.1.length : Int) ≤ 20)))
      (some false)).bind fun t48 =>
    (cond t48
      (some (decide ((p0.2.2.2.2.2.2.2.2.2.2.2.2.1.length : Int) ≤ 6)))
      (some false)).bind fun t54 =>
    (cond t54
      ((spec_l1In p0.2.2.2.2.2.2.2.2.2.2.2.2.2.1 0 1000000).bind fun t58 =>
      some t58)
      (some false)).bind fun t59 =>
    (cond t59
      ((spec_l1In p0.2.2.2.2.2.2.2.2.2.2.2.2.2.2 0 1000000).bind fun t63 =>
      some t63)
      (some false)).bind fun t64 =>
    some t64) (fun r => some r))
noncomputable def F_spec_AgentOk : Fn := ⟨[.val true cAgent false], [.val false (.one .bool) true], fun a => spec_AgentOk a⟩
def a_spec_AgentOk : List (Nat × LoopAnn) := [(0, ⟨⟨[(3, false, [.dat (.int .i64)]), (21, false, [.undef]), (22, false, [.undef]), (23, false, [.undef]), (24, false, [.undef]), (25, false, [.undef]), (26, false, [.undef]), (27, false, [.undef]), (28, false, [.undef]), (29, false, [.undef]), (30, false, [.undef]), (31, false, [.undef]), (32, false, [.undef]), (33, false, [.undef]), (34, false, [.undef]), (35, false, [.undef]), (36, false, [.undef]), (37, false, [.undef]), (38, false, [.undef])], []⟩,
    ⟨[], []⟩, some ⟨[(2, false, [.dat .bool])], []⟩⟩)]
theorem e_spec_AgentOk : fnDen ⟨tis, fns_262, [], false⟩ a_spec_AgentOk Tryz.f149 (codeOf Tryz.f149) [.val true cAgent false] [.val false (.one .bool) true] = fun a => spec_AgentOk a := by kernel_rfl
theorem m_spec_AgentOk : Meets Tryz.prog 149 F_spec_AgentOk := by
  have h := meets_of (ann := a_spec_AgentOk) (ps := [.val true cAgent false]) (rs := [.val false (.one .bool) true]) g_262 mixed Tryz.func149 (by kernel_rfl) (by kernel_rfl : Tryz.f149.body = some (codeOf Tryz.f149))
  rw [e_spec_AgentOk] at h
  exact h
noncomputable def fns_149 : List (FuncId × Fn) := (149, F_spec_AgentOk) :: fns_262
theorem g_149 : Good Tryz.prog ⟨tis, fns_149, [], false⟩ := g_262.cons m_spec_AgentOk
noncomputable def spec_l8Copy (l0 : List Fent) : Option (List Fent) :=
  (app ([] : List Fent) l0).bind fun zs5 =>
  some zs5
noncomputable def F_spec_l8Copy : Fn := ⟨[.val false (.one (.sl cFent)) false], [.val false (.one (.sl cFent)) true], fun a => spec_l8Copy a⟩
def a_spec_l8Copy : List (Nat × LoopAnn) := []
theorem e_spec_l8Copy : fnDen ⟨tis, fns_149, [], false⟩ a_spec_l8Copy Tryz.f211 (codeOf Tryz.f211) [.val false (.one (.sl cFent)) false] [.val false (.one (.sl cFent)) true] = fun a => spec_l8Copy a := by kernel_rfl
theorem m_spec_l8Copy : Meets Tryz.prog 211 F_spec_l8Copy := by
  have h := meets_of (ann := a_spec_l8Copy) (ps := [.val false (.one (.sl cFent)) false]) (rs := [.val false (.one (.sl cFent)) true]) g_149 mixed Tryz.func211 (by kernel_rfl) (by kernel_rfl : Tryz.f211.body = some (codeOf Tryz.f211))
  rw [e_spec_l8Copy] at h
  exact h
noncomputable def fns_211 : List (FuncId × Fn) := (211, F_spec_l8Copy) :: fns_149
theorem g_211 : Good Tryz.prog ⟨tis, fns_211, [], false⟩ := g_149.cons m_spec_l8Copy
noncomputable def spec_l9Copy (v0 : Vtab) : Option Vtab :=
  (app ([] : List Vrow) v0.1).bind fun zs6 =>
  (app ([] : List Int) v0.2).bind fun zs10 =>
  some (zs6, zs10)
noncomputable def F_spec_l9Copy : Fn := ⟨[.val true cVtab false], [.val true cVtab true], fun a => spec_l9Copy a⟩
def a_spec_l9Copy : List (Nat × LoopAnn) := []
theorem e_spec_l9Copy : fnDen ⟨tis, fns_211, [], false⟩ a_spec_l9Copy Tryz.f212 (codeOf Tryz.f212) [.val true cVtab false] [.val true cVtab true] = fun a => spec_l9Copy a := by kernel_rfl
theorem m_spec_l9Copy : Meets Tryz.prog 212 F_spec_l9Copy := by
  have h := meets_of (ann := a_spec_l9Copy) (ps := [.val true cVtab false]) (rs := [.val true cVtab true]) g_211 mixed Tryz.func212 (by kernel_rfl) (by kernel_rfl : Tryz.f212.body = some (codeOf Tryz.f212))
  rw [e_spec_l9Copy] at h
  exact h
noncomputable def fns_212 : List (FuncId × Fn) := (212, F_spec_l9Copy) :: fns_211
theorem g_212 : Good Tryz.prog ⟨tis, fns_212, [], false⟩ := g_211.cons m_spec_l9Copy
noncomputable def spec_l11Copy (b0 : Bridge) : Option Bridge :=
  (app ([] : List Pt) b0.2.2.1).bind fun zs8 =>
  (spec_l8Copy b0.2.2.2.1).bind fun t12 =>
  (spec_l9Copy (b0.2.2.2.2.1, b0.2.2.2.2.2.1)).bind fun t16 =>
  some (b0.1, b0.2.1, zs8, t12, t16.1, t16.2, b0.2.2.2.2.2.2.1, b0.2.2.2.2.2.2.2.1, b0.2.2.2.2.2.2.2.2.1, b0.2.2.2.2.2.2.2.2.2.1, b0.2.2.2.2.2.2.2.2.2.2)
noncomputable def F_spec_l11Copy : Fn := ⟨[.val true cBridge false], [.val true cBridge true], fun a => spec_l11Copy a⟩
def a_spec_l11Copy : List (Nat × LoopAnn) := []
theorem e_spec_l11Copy : fnDen ⟨tis, fns_212, [], false⟩ a_spec_l11Copy Tryz.f93 (codeOf Tryz.f93) [.val true cBridge false] [.val true cBridge true] = fun a => spec_l11Copy a := by kernel_rfl
theorem m_spec_l11Copy : Meets Tryz.prog 93 F_spec_l11Copy := by
  have h := meets_of (ann := a_spec_l11Copy) (ps := [.val true cBridge false]) (rs := [.val true cBridge true]) g_212 mixed Tryz.func93 (by kernel_rfl) (by kernel_rfl : Tryz.f93.body = some (codeOf Tryz.f93))
  rw [e_spec_l11Copy] at h
  exact h
noncomputable def fns_93 : List (FuncId × Fn) := (93, F_spec_l11Copy) :: fns_212
theorem g_93 : Good Tryz.prog ⟨tis, fns_93, [], false⟩ := g_212.cons m_spec_l11Copy
noncomputable def spec_l4Copy_l0 (l0 : List Bind) (i4 : Int) (out3 : List Bind) : Option ((Int × List Bind) ⊕ (List Bind)) :=
  cond (decide (i4 < (l0.length : Int)))
    ((at? l0 i4).bind fun x15 =>
    (app ([] : List Int) x15.2.2.2.2).bind fun zs21 =>
    (at? l0 i4).bind fun x27 =>
    (app ([] : List Int) x27.1).bind fun zs30 =>
    (app out3 [(zs30, x15.2.1, x15.2.2.1, x15.2.2.2.1, zs21)]).bind fun zs34 =>
    some (.inl (w64 (i4 + 1), zs34)))
    (some (.inr out3))
noncomputable def spec_l4Copy (l0 : List Bind) : Option (List Bind) :=
  (loop (fun z => spec_l4Copy_l0 l0 z.1 z.2) (0, ([] : List Bind))).bind fun d =>
  some d
noncomputable def F_spec_l4Copy : Fn := ⟨[.val false (.one (.sl cBind)) false], [.val false (.one (.sl cBind)) true], fun a => spec_l4Copy a⟩
def a_spec_l4Copy : List (Nat × LoopAnn) := [(0, ⟨⟨[(3, false, [.own 1000000000]), (4, false, [.dat (.int .i64)])], [(1000000000, .root cBind true)]⟩,
    ⟨[(3, false, [.own 1000000300])], [(1000000300, .root cBind true)]⟩, none⟩)]
theorem e_spec_l4Copy : fnDen ⟨tis, fns_93, [], false⟩ a_spec_l4Copy Tryz.f339 (codeOf Tryz.f339) [.val false (.one (.sl cBind)) false] [.val false (.one (.sl cBind)) true] = fun a => spec_l4Copy a := by kernel_rfl
theorem m_spec_l4Copy : Meets Tryz.prog 339 F_spec_l4Copy := by
  have h := meets_of (ann := a_spec_l4Copy) (ps := [.val false (.one (.sl cBind)) false]) (rs := [.val false (.one (.sl cBind)) true]) g_93 mixed Tryz.func339 (by kernel_rfl) (by kernel_rfl : Tryz.f339.body = some (codeOf Tryz.f339))
  rw [e_spec_l4Copy] at h
  exact h
noncomputable def fns_339 : List (FuncId × Fn) := (339, F_spec_l4Copy) :: fns_93
theorem g_339 : Good Tryz.prog ⟨tis, fns_339, [], false⟩ := g_93.cons m_spec_l4Copy
noncomputable def spec_l20CopyPdu (p0 : Pdu) : Option Pdu :=
  (spec_l4Copy p0.2.2.2.2).bind fun t7 =>
  some (p0.1, p0.2.1, p0.2.2.1, p0.2.2.2.1, t7)
noncomputable def F_spec_l20CopyPdu : Fn := ⟨[.val true cPdu false], [.val true cPdu true], fun a => spec_l20CopyPdu a⟩
def a_spec_l20CopyPdu : List (Nat × LoopAnn) := []
theorem e_spec_l20CopyPdu : fnDen ⟨tis, fns_339, [], false⟩ a_spec_l20CopyPdu Tryz.f270 (codeOf Tryz.f270) [.val true cPdu false] [.val true cPdu true] = fun a => spec_l20CopyPdu a := by kernel_rfl
theorem m_spec_l20CopyPdu : Meets Tryz.prog 270 F_spec_l20CopyPdu := by
  have h := meets_of (ann := a_spec_l20CopyPdu) (ps := [.val true cPdu false]) (rs := [.val true cPdu true]) g_339 mixed Tryz.func270 (by kernel_rfl) (by kernel_rfl : Tryz.f270.body = some (codeOf Tryz.f270))
  rw [e_spec_l20CopyPdu] at h
  exact h
noncomputable def fns_270 : List (FuncId × Fn) := (270, F_spec_l20CopyPdu) :: fns_339
theorem g_270 : Good Tryz.prog ⟨tis, fns_270, [], false⟩ := g_339.cons m_spec_l20CopyPdu
noncomputable def spec_l20Copy_l0 (a0 : Agent) (i4 : Int) (b0 : Int) (b1 : List UInt8) (b6 : Int) (b7 : Int) (b8 : Int) (b9 : Int) (b10 : Int) (b11 : List UInt8) (b13 : Int) (b14 : Int) (b12 : List Job) : Option ((Int × Int × List UInt8 × Int × Int × Int × Int × Int × List UInt8 × Int × Int × List Job) ⊕ (Int × List UInt8 × Int × Int × Int × Int × Int × List UInt8 × Int × Int × List Job)) :=
  cond (decide (i4 < (a0.2.2.2.2.2.2.2.2.2.2.2.2.1.length : Int)))
    ((at? a0.2.2.2.2.2.2.2.2.2.2.2.2.1 i4).bind fun x26 =>
    (app ([] : List Int) x26.2.1).bind fun zs31 =>
    (spec_l20CopyPdu (x26.2.2.2.1, x26.2.2.2.2.1, x26.2.2.2.2.2.1, x26.2.2.2.2.2.2.1, x26.2.2.2.2.2.2.2.1)).bind fun t35 =>
    (spec_l11Copy (x26.2.2.2.2.2.2.2.2.1, x26.2.2.2.2.2.2.2.2.2.1, x26.2.2.2.2.2.2.2.2.2.2.1, x26.2.2.2.2.2.2.2.2.2.2.2.1, x26.2.2.2.2.2.2.2.2.2.2.2.2.1, x26.2.2.2.2.2.2.2.2.2.2.2.2.2.1, x26.2.2.2.2.2.2.2.2.2.2.2.2.2.2.1, x26.2.2.2.2.2.2.2.2.2.2.2.2.2.2.2.1, x26.2.2.2.2.2.2.2.2.2.2.2.2.2.2.2.2.1, x26.2.2.2.2.2.2.2.2.2.2.2.2.2.2.2.2.2.1, x26.2.2.2.2.2.2.2.2.2.2.2.2.2.2.2.2.2.2.1)).bind fun t39 =>
    (app b12 [(x26.1, zs31, x26.2.2.1, t35.1, t35.2.1, t35.2.2.1, t35.2.2.2.1, t35.2.2.2.2, t39.1, t39.2.1, t39.2.2.1, t39.2.2.2.1, t39.2.2.2.2.1, t39.2.2.2.2.2.1, t39.2.2.2.2.2.2.1, t39.2.2.2.2.2.2.2.1, t39.2.2.2.2.2.2.2.2.1, t39.2.2.2.2.2.2.2.2.2.1, t39.2.2.2.2.2.2.2.2.2.2, x26.2.2.2.2.2.2.2.2.2.2.2.2.2.2.2.2.2.2.2.1, x26.2.2.2.2.2.2.2.2.2.2.2.2.2.2.2.2.2.2.2.2)]).bind fun zs45 =>
    some (.inl (w64 (i4 + 1), b0, b1, b6, b7, b8, b9, b10, b11, b13, b14, zs45)))
    (some (.inr (b0, b1, b6, b7, b8, b9, b10, b11, b13, b14, b12)))
noncomputable def spec_l20Copy (a0 : Agent) : Option Agent :=
  (spec_l11Copy (a0.1, a0.2.1, a0.2.2.1, a0.2.2.2.1, a0.2.2.2.2.1, a0.2.2.2.2.2.1, a0.2.2.2.2.2.2.1, a0.2.2.2.2.2.2.2.1, a0.2.2.2.2.2.2.2.2.1, a0.2.2.2.2.2.2.2.2.2.1, a0.2.2.2.2.2.2.2.2.2.2.1)).bind fun t8 =>
  (loop (fun z => spec_l20Copy_l0 a0 z.1 z.2.1 z.2.2.1 z.2.2.2.1 z.2.2.2.2.1 z.2.2.2.2.2.1 z.2.2.2.2.2.2.1 z.2.2.2.2.2.2.2.1 z.2.2.2.2.2.2.2.2.1 z.2.2.2.2.2.2.2.2.2.1 z.2.2.2.2.2.2.2.2.2.2.1 z.2.2.2.2.2.2.2.2.2.2.2) (0, t8.1, t8.2.1, t8.2.2.2.2.2.2.1, t8.2.2.2.2.2.2.2.1, t8.2.2.2.2.2.2.2.2.1, t8.2.2.2.2.2.2.2.2.2.1, t8.2.2.2.2.2.2.2.2.2.2, a0.2.2.2.2.2.2.2.2.2.2.2.1, a0.2.2.2.2.2.2.2.2.2.2.2.2.2.1, a0.2.2.2.2.2.2.2.2.2.2.2.2.2.2, [])).bind fun d =>
  some (d.1, d.2.1, t8.2.2.1, t8.2.2.2.1, t8.2.2.2.2.1, t8.2.2.2.2.2.1, d.2.2.1, d.2.2.2.1, d.2.2.2.2.1, d.2.2.2.2.2.1, d.2.2.2.2.2.2.1, d.2.2.2.2.2.2.2.1, d.2.2.2.2.2.2.2.2.2.2, d.2.2.2.2.2.2.2.2.1, d.2.2.2.2.2.2.2.2.2.1)
noncomputable def F_spec_l20Copy : Fn := ⟨[.val true cAgent false], [.val true cAgent true], fun a => spec_l20Copy a⟩
def a_spec_l20Copy : List (Nat × LoopAnn) := [(0, ⟨⟨[(4, false, [.dat (.int .i64)])], [(273408, .box [.dat (.int .i64), .dat .str, .same 265218, .same 265219, .same 265220, .same 265221, .dat (.int .i64), .dat (.int .i64), .dat (.int .i64), .dat (.int .i64), .dat (.int .i64), .dat .str, .own 1000000000, .dat (.int .i64), .dat (.int .i64)]), (1000000000, .root cJob true)]⟩,
    ⟨[], [(273408, .box [.dat (.int .i64), .dat .str, .same 265218, .same 265219, .same 265220, .same 265221, .dat (.int .i64), .dat (.int .i64), .dat (.int .i64), .dat (.int .i64), .dat (.int .i64), .dat .str, .own 1000000300, .dat (.int .i64), .dat (.int .i64)]), (1000000300, .root cJob true)]⟩, none⟩)]
theorem e_spec_l20Copy : fnDen ⟨tis, fns_270, [], false⟩ a_spec_l20Copy Tryz.f155 (codeOf Tryz.f155) [.val true cAgent false] [.val true cAgent true] = fun a => spec_l20Copy a := by kernel_rfl
theorem m_spec_l20Copy : Meets Tryz.prog 155 F_spec_l20Copy := by
  have h := meets_of (ann := a_spec_l20Copy) (ps := [.val true cAgent false]) (rs := [.val true cAgent true]) g_270 mixed Tryz.func155 (by kernel_rfl) (by kernel_rfl : Tryz.f155.body = some (codeOf Tryz.f155))
  rw [e_spec_l20Copy] at h
  exact h
noncomputable def fns_155 : List (FuncId × Fn) := (155, F_spec_l20Copy) :: fns_270
theorem g_155 : Good Tryz.prog ⟨tis, fns_155, [], false⟩ := g_270.cons m_spec_l20Copy
noncomputable def spec_l11One (n0 : Int) : Option Int :=
  cond (decide (n0 ≥ 1000000)) (some n0) (some (w64 (n0 + 1)))
noncomputable def F_spec_l11One : Fn := ⟨[.val false (.one (.int .i64)) false], [.val false (.one (.int .i64)) true], fun a => spec_l11One a⟩
def a_spec_l11One : List (Nat × LoopAnn) := []
theorem e_spec_l11One : fnDen ⟨tis, fns_155, [], false⟩ a_spec_l11One Tryz.f156 (codeOf Tryz.f156) [.val false (.one (.int .i64)) false] [.val false (.one (.int .i64)) true] = fun a => spec_l11One a := by kernel_rfl
theorem m_spec_l11One : Meets Tryz.prog 156 F_spec_l11One := by
  have h := meets_of (ann := a_spec_l11One) (ps := [.val false (.one (.int .i64)) false]) (rs := [.val false (.one (.int .i64)) true]) g_155 mixed Tryz.func156 (by kernel_rfl) (by kernel_rfl : Tryz.f156.body = some (codeOf Tryz.f156))
  rw [e_spec_l11One] at h
  exact h
noncomputable def fns_156 : List (FuncId × Fn) := (156, F_spec_l11One) :: fns_155
theorem g_156 : Good Tryz.prog ⟨tis, fns_156, [], false⟩ := g_155.cons m_spec_l11One
noncomputable def spec_Arrive (a0 : Agent) (b1 : List Int) : Option Agent :=
  (spec_l20Copy a0).bind fun t7 =>
  (spec_AgentOk a0).bind fun t9 =>
  (cond (!t9)
    (some true)
    (some (decide ((a0.2.2.2.2.2.2.2.2.2.2.2.2.1.length : Int) ≥ 6)))).bind fun t16 =>
  (cond t16
    (some true)
    (some (decide (a0.2.2.2.2.2.2.2.2.2.2.2.2.2.2 ≥ 1000000)))).bind fun t21 =>
  cond t21
    ((spec_AgentOk a0).bind fun t23 =>
    cond t23
      ((spec_l11One a0.2.2.2.2.2.2.2.2.2.2.2.2.2.1).bind fun t26 =>
      some (t7.1, t7.2.1, t7.2.2.1, t7.2.2.2.1, t7.2.2.2.2.1, t7.2.2.2.2.2.1, t7.2.2.2.2.2.2.1, t7.2.2.2.2.2.2.2.1, t7.2.2.2.2.2.2.2.2.1, t7.2.2.2.2.2.2.2.2.2.1, t7.2.2.2.2.2.2.2.2.2.2.1, t7.2.2.2.2.2.2.2.2.2.2.2.1, t7.2.2.2.2.2.2.2.2.2.2.2.2.1, t26, t7.2.2.2.2.2.2.2.2.2.2.2.2.2.2))
      (some t7))
    ((app ([] : List Int) b1).bind fun zs39 =>
    (app t7.2.2.2.2.2.2.2.2.2.2.2.2.1 ([(w64 (a0.2.2.2.2.2.2.2.2.2.2.2.2.2.2 + 1), zs39, 0, 0, 0, 0, 0, [], 0, [], [], [], [], [], 0, 0, 0, 0, 0, 0, 0)])).bind fun zs42 =>
    some (t7.1, t7.2.1, t7.2.2.1, t7.2.2.2.1, t7.2.2.2.2.1, t7.2.2.2.2.2.1, t7.2.2.2.2.2.2.1, t7.2.2.2.2.2.2.2.1, t7.2.2.2.2.2.2.2.2.1, t7.2.2.2.2.2.2.2.2.2.1, t7.2.2.2.2.2.2.2.2.2.2.1, t7.2.2.2.2.2.2.2.2.2.2.2.1, zs42, t7.2.2.2.2.2.2.2.2.2.2.2.2.2.1, w64 (a0.2.2.2.2.2.2.2.2.2.2.2.2.2.2 + 1)))
noncomputable def F_spec_Arrive : Fn := ⟨[.val true cAgent false, .val false (.one (.sl (.one (.int .u8)))) false], [.val true cAgent true], fun a => spec_Arrive a.1 a.2⟩
def a_spec_Arrive : List (Nat × LoopAnn) := []
theorem e_spec_Arrive : fnDen ⟨tis, fns_156, [], false⟩ a_spec_Arrive Tryz.f59 (codeOf Tryz.f59) [.val true cAgent false, .val false (.one (.sl (.one (.int .u8)))) false] [.val true cAgent true] = fun a => spec_Arrive a.1 a.2 := by kernel_rfl
theorem m_spec_Arrive : Meets Tryz.prog 59 F_spec_Arrive := by
  have h := meets_of (ann := a_spec_Arrive) (ps := [.val true cAgent false, .val false (.one (.sl (.one (.int .u8)))) false]) (rs := [.val true cAgent true]) g_156 mixed Tryz.func59 (by kernel_rfl) (by kernel_rfl : Tryz.f59.body = some (codeOf Tryz.f59))
  rw [e_spec_Arrive] at h
  exact h
noncomputable def fns_59 : List (FuncId × Fn) := (59, F_spec_Arrive) :: fns_156
theorem g_59 : Good Tryz.prog ⟨tis, fns_59, [], false⟩ := g_156.cons m_spec_Arrive
noncomputable def laws_markText_l0 (k0_1 : Int) (out3 : List UInt8) : Option ((Int × List UInt8) ⊕ (List UInt8)) :=
  cond (decide (k0_1 > 0))
    ((cat (bytesOf [IntKind.u8.wrap (w64 (48 + (k0_1.tmod 10)))]) out3).bind fun t15 =>
    some (.inl (w64 (k0_1.tdiv 10), t15)))
    (some (.inr out3))
noncomputable def laws_markText (k0 : Int) : Option (List UInt8) :=
  cond (decide (k0 ≤ 0))
    (some [109, 48])
    ((loop (fun z => laws_markText_l0 z.1 z.2) (k0, [])).bind fun d =>
    (cat [109] d).bind fun t19 =>
    some t19)
noncomputable def F_laws_markText : Fn := ⟨[.val false (.one (.int .i64)) false], [.val false (.one .str) true], fun a => laws_markText a⟩
def a_laws_markText : List (Nat × LoopAnn) := [(0, ⟨⟨[(0, false, [.dat (.int .i64)]), (3, false, [.dat .str])], []⟩,
    ⟨[(3, false, [.dat .str])], []⟩, none⟩)]
theorem e_laws_markText : fnDen ⟨tis, fns_59, [], false⟩ a_laws_markText Tryz.f133 (codeOf Tryz.f133) [.val false (.one (.int .i64)) false] [.val false (.one .str) true] = fun a => laws_markText a := by kernel_rfl
theorem m_laws_markText : Meets Tryz.prog 133 F_laws_markText := by
  have h := meets_of (ann := a_laws_markText) (ps := [.val false (.one (.int .i64)) false]) (rs := [.val false (.one .str) true]) g_59 mixed Tryz.func133 (by kernel_rfl) (by kernel_rfl : Tryz.f133.body = some (codeOf Tryz.f133))
  rw [e_laws_markText] at h
  exact h
noncomputable def fns_133 : List (FuncId × Fn) := (133, F_laws_markText) :: fns_59
theorem g_133 : Good Tryz.prog ⟨tis, fns_133, [], false⟩ := g_59.cons m_laws_markText
noncomputable def laws_heldPtS_l0 (p0 : List Pt) (i1_1 : Int) (t5 : Int) : Option ((Int × Int) ⊕ (Int ⊕ Int)) :=
  cond (decide (t5 < (p0.length : Int)))
    ((at? p0 t5).bind fun x14 =>
    cond (!(x14.1 == ((i1_1.tmod 3) == 0)))
      (some (.inr (.inr (-1))))
      ((at? p0 t5).bind fun x25 =>
      cond (x25.2.1 != (w64 (i1_1 + 1)))
        (some (.inr (.inr (-1))))
        (let i1_2 := w64 ((w64 (i1_1 + 1)) + 1)
        (at? p0 t5).bind fun x34 =>
        cond (!(x34.2.2.1 == ((i1_2.tmod 3) == 0)))
          (some (.inr (.inr (-1))))
          ((at? p0 t5).bind fun x45 =>
          cond (x45.2.2.2.1 != (w64 (i1_2 + 1)))
            (some (.inr (.inr (-1))))
            (let i1_3 := w64 ((w64 (i1_2 + 1)) + 1)
            (at? p0 t5).bind fun x55 =>
            cond (x55.2.2.2.2.1 != i1_3)
              (some (.inr (.inr (-1))))
              ((at? p0 t5).bind fun x65 =>
              cond (x65.2.2.2.2.2.1 != (w64 (i1_3 + 1)))
                (some (.inr (.inr (-1))))
                (let i1_4 := w64 ((w64 (i1_3 + 1)) + 1)
                (at? p0 t5).bind fun x75 =>
                cond (x75.2.2.2.2.2.2.1 != i1_4)
                  (some (.inr (.inr (-1))))
                  ((at? p0 t5).bind fun x85 =>
                  cond (x85.2.2.2.2.2.2.2 != (w64 (i1_4 + 1)))
                    (some (.inr (.inr (-1))))
                    (let i1_5 := w64 ((w64 (i1_4 + 1)) + 1)
                    some (.inl (i1_5, w64 (t5 + 1))))))))))))
    (some (.inr (.inl i1_1)))
noncomputable def laws_heldPtS (p0 : List Pt) (i1 : Int) : Option Int :=
  (loop (fun z => laws_heldPtS_l0 p0 z.1 z.2) (i1, 0)).bind (Sum.elim (fun d =>
    some d) (fun r => some r))
noncomputable def F_laws_heldPtS : Fn := ⟨[.val false (.one (.sl cPt)) false, .val false (.one (.int .i64)) false], [.val false (.one (.int .i64)) true], fun a => laws_heldPtS a.1 a.2⟩
def a_laws_heldPtS : List (Nat × LoopAnn) := [(0, ⟨⟨[(1, false, [.dat (.int .i64)]), (5, false, [.dat (.int .i64)])], []⟩,
    ⟨[(1, false, [.dat (.int .i64)])], []⟩, some ⟨[(4, false, [.dat (.int .i64)])], []⟩⟩)]
theorem e_laws_heldPtS : fnDen ⟨tis, fns_133, [], false⟩ a_laws_heldPtS Tryz.f134 (codeOf Tryz.f134) [.val false (.one (.sl cPt)) false, .val false (.one (.int .i64)) false] [.val false (.one (.int .i64)) true] = fun a => laws_heldPtS a.1 a.2 := by kernel_rfl
theorem m_laws_heldPtS : Meets Tryz.prog 134 F_laws_heldPtS := by
  have h := meets_of (ann := a_laws_heldPtS) (ps := [.val false (.one (.sl cPt)) false, .val false (.one (.int .i64)) false]) (rs := [.val false (.one (.int .i64)) true]) g_133 mixed Tryz.func134 (by kernel_rfl) (by kernel_rfl : Tryz.f134.body = some (codeOf Tryz.f134))
  rw [e_laws_heldPtS] at h
  exact h
noncomputable def fns_134 : List (FuncId × Fn) := (134, F_laws_heldPtS) :: fns_133
theorem g_134 : Good Tryz.prog ⟨tis, fns_134, [], false⟩ := g_133.cons m_laws_heldPtS
noncomputable def laws_heldFentS_l0 (a0 : List Fent) (k1_1 : Int) (i5 : Int) : Option ((Int × Int) ⊕ (Int ⊕ Int)) :=
  cond (decide (i5 < (a0.length : Int)))
    ((at? a0 i5).bind fun x14 =>
    cond (x14.1 != k1_1)
      (some (.inr (.inr (-1))))
      ((at? a0 i5).bind fun x23 =>
      cond (x23.2.1 != (w64 (k1_1 + 1)))
        (some (.inr (.inr (-1))))
        (let k1_2 := w64 ((w64 (k1_1 + 1)) + 1)
        (at? a0 i5).bind fun x32 =>
        cond (x32.2.2.1 != k1_2)
          (some (.inr (.inr (-1))))
          ((at? a0 i5).bind fun x41 =>
          cond (x41.2.2.2.1 != (w64 (k1_2 + 1)))
            (some (.inr (.inr (-1))))
            (let k1_3 := w64 ((w64 (k1_2 + 1)) + 1)
            (at? a0 i5).bind fun x50 =>
            cond (!(x50.2.2.2.2 == ((k1_3.tmod 3) == 0)))
              (some (.inr (.inr (-1))))
              (some (.inl (w64 (k1_3 + 1), w64 (i5 + 1)))))))))
    (some (.inr (.inl k1_1)))
noncomputable def laws_heldFentS (a0 : List Fent) (k1 : Int) : Option Int :=
  (loop (fun z => laws_heldFentS_l0 a0 z.1 z.2) (k1, 0)).bind (Sum.elim (fun d =>
    some d) (fun r => some r))
noncomputable def F_laws_heldFentS : Fn := ⟨[.val false (.one (.sl cFent)) false, .val false (.one (.int .i64)) false], [.val false (.one (.int .i64)) true], fun a => laws_heldFentS a.1 a.2⟩
def a_laws_heldFentS : List (Nat × LoopAnn) := [(0, ⟨⟨[(1, false, [.dat (.int .i64)]), (5, false, [.dat (.int .i64)])], []⟩,
    ⟨[(1, false, [.dat (.int .i64)])], []⟩, some ⟨[(4, false, [.dat (.int .i64)])], []⟩⟩)]
theorem e_laws_heldFentS : fnDen ⟨tis, fns_134, [], false⟩ a_laws_heldFentS Tryz.f135 (codeOf Tryz.f135) [.val false (.one (.sl cFent)) false, .val false (.one (.int .i64)) false] [.val false (.one (.int .i64)) true] = fun a => laws_heldFentS a.1 a.2 := by kernel_rfl
theorem m_laws_heldFentS : Meets Tryz.prog 135 F_laws_heldFentS := by
  have h := meets_of (ann := a_laws_heldFentS) (ps := [.val false (.one (.sl cFent)) false, .val false (.one (.int .i64)) false]) (rs := [.val false (.one (.int .i64)) true]) g_134 mixed Tryz.func135 (by kernel_rfl) (by kernel_rfl : Tryz.f135.body = some (codeOf Tryz.f135))
  rw [e_laws_heldFentS] at h
  exact h
noncomputable def fns_135 : List (FuncId × Fn) := (135, F_laws_heldFentS) :: fns_134
theorem g_135 : Good Tryz.prog ⟨tis, fns_135, [], false⟩ := g_134.cons m_laws_heldFentS
noncomputable def laws_heldVrowS_l0 (a0 : List Vrow) (k1_1 : Int) (i5 : Int) : Option ((Int × Int) ⊕ (Int ⊕ Int)) :=
  cond (decide (i5 < (a0.length : Int)))
    ((at? a0 i5).bind fun x14 =>
    cond (x14.1 != k1_1)
      (some (.inr (.inr (-1))))
      ((at? a0 i5).bind fun x23 =>
      cond (x23.2.1 != (w64 (k1_1 + 1)))
        (some (.inr (.inr (-1))))
        (let k1_2 := w64 ((w64 (k1_1 + 1)) + 1)
        (at? a0 i5).bind fun x32 =>
        cond (x32.2.2 != k1_2)
          (some (.inr (.inr (-1))))
          (some (.inl (w64 (k1_2 + 1), w64 (i5 + 1)))))))
    (some (.inr (.inl k1_1)))
noncomputable def laws_heldVrowS (a0 : List Vrow) (k1 : Int) : Option Int :=
  (loop (fun z => laws_heldVrowS_l0 a0 z.1 z.2) (k1, 0)).bind (Sum.elim (fun d =>
    some d) (fun r => some r))
noncomputable def F_laws_heldVrowS : Fn := ⟨[.val false (.one (.sl cVrow)) false, .val false (.one (.int .i64)) false], [.val false (.one (.int .i64)) true], fun a => laws_heldVrowS a.1 a.2⟩
def a_laws_heldVrowS : List (Nat × LoopAnn) := [(0, ⟨⟨[(1, false, [.dat (.int .i64)]), (5, false, [.dat (.int .i64)])], []⟩,
    ⟨[(1, false, [.dat (.int .i64)])], []⟩, some ⟨[(4, false, [.dat (.int .i64)])], []⟩⟩)]
theorem e_laws_heldVrowS : fnDen ⟨tis, fns_135, [], false⟩ a_laws_heldVrowS Tryz.f251 (codeOf Tryz.f251) [.val false (.one (.sl cVrow)) false, .val false (.one (.int .i64)) false] [.val false (.one (.int .i64)) true] = fun a => laws_heldVrowS a.1 a.2 := by kernel_rfl
theorem m_laws_heldVrowS : Meets Tryz.prog 251 F_laws_heldVrowS := by
  have h := meets_of (ann := a_laws_heldVrowS) (ps := [.val false (.one (.sl cVrow)) false, .val false (.one (.int .i64)) false]) (rs := [.val false (.one (.int .i64)) true]) g_135 mixed Tryz.func251 (by kernel_rfl) (by kernel_rfl : Tryz.f251.body = some (codeOf Tryz.f251))
  rw [e_laws_heldVrowS] at h
  exact h
noncomputable def fns_251 : List (FuncId × Fn) := (251, F_laws_heldVrowS) :: fns_135
theorem g_251 : Good Tryz.prog ⟨tis, fns_251, [], false⟩ := g_135.cons m_laws_heldVrowS
noncomputable def laws_heldIntS_l0 (a0 : List Int) (k1_1 : Int) (i5 : Int) : Option ((Int × Int) ⊕ (Int ⊕ Int)) :=
  cond (decide (i5 < (a0.length : Int)))
    ((at? a0 i5).bind fun x14 =>
    cond (x14 != k1_1)
      (some (.inr (.inr (-1))))
      (some (.inl (w64 (k1_1 + 1), w64 (i5 + 1)))))
    (some (.inr (.inl k1_1)))
noncomputable def laws_heldIntS (a0 : List Int) (k1 : Int) : Option Int :=
  (loop (fun z => laws_heldIntS_l0 a0 z.1 z.2) (k1, 0)).bind (Sum.elim (fun d =>
    some d) (fun r => some r))
noncomputable def F_laws_heldIntS : Fn := ⟨[.val false (.one (.sl (.one (.int .i64)))) false, .val false (.one (.int .i64)) false], [.val false (.one (.int .i64)) true], fun a => laws_heldIntS a.1 a.2⟩
def a_laws_heldIntS : List (Nat × LoopAnn) := [(0, ⟨⟨[(1, false, [.dat (.int .i64)]), (5, false, [.dat (.int .i64)])], []⟩,
    ⟨[(1, false, [.dat (.int .i64)])], []⟩, some ⟨[(4, false, [.dat (.int .i64)])], []⟩⟩)]
theorem e_laws_heldIntS : fnDen ⟨tis, fns_251, [], false⟩ a_laws_heldIntS Tryz.f252 (codeOf Tryz.f252) [.val false (.one (.sl (.one (.int .i64)))) false, .val false (.one (.int .i64)) false] [.val false (.one (.int .i64)) true] = fun a => laws_heldIntS a.1 a.2 := by kernel_rfl
theorem m_laws_heldIntS : Meets Tryz.prog 252 F_laws_heldIntS := by
  have h := meets_of (ann := a_laws_heldIntS) (ps := [.val false (.one (.sl (.one (.int .i64)))) false, .val false (.one (.int .i64)) false]) (rs := [.val false (.one (.int .i64)) true]) g_251 mixed Tryz.func252 (by kernel_rfl) (by kernel_rfl : Tryz.f252.body = some (codeOf Tryz.f252))
  rw [e_laws_heldIntS] at h
  exact h
noncomputable def fns_252 : List (FuncId × Fn) := (252, F_laws_heldIntS) :: fns_251
theorem g_252 : Good Tryz.prog ⟨tis, fns_252, [], false⟩ := g_251.cons m_laws_heldIntS
noncomputable def laws_heldVtab (a0 : Vtab) (k1 : Int) : Option Int :=
  (laws_heldVrowS a0.1 k1).bind fun t8 =>
  cond (decide (t8 < 0))
    (some (-1))
    ((laws_heldIntS a0.2 t8).bind fun t14 =>
    cond (decide (t14 < 0)) (some (-1)) (some t14))
noncomputable def F_laws_heldVtab : Fn := ⟨[.val true cVtab false, .val false (.one (.int .i64)) false], [.val false (.one (.int .i64)) true], fun a => laws_heldVtab a.1 a.2⟩
def a_laws_heldVtab : List (Nat × LoopAnn) := []
theorem e_laws_heldVtab : fnDen ⟨tis, fns_252, [], false⟩ a_laws_heldVtab Tryz.f136 (codeOf Tryz.f136) [.val true cVtab false, .val false (.one (.int .i64)) false] [.val false (.one (.int .i64)) true] = fun a => laws_heldVtab a.1 a.2 := by kernel_rfl
theorem m_laws_heldVtab : Meets Tryz.prog 136 F_laws_heldVtab := by
  have h := meets_of (ann := a_laws_heldVtab) (ps := [.val true cVtab false, .val false (.one (.int .i64)) false]) (rs := [.val false (.one (.int .i64)) true]) g_252 mixed Tryz.func136 (by kernel_rfl) (by kernel_rfl : Tryz.f136.body = some (codeOf Tryz.f136))
  rw [e_laws_heldVtab] at h
  exact h
noncomputable def fns_136 : List (FuncId × Fn) := (136, F_laws_heldVtab) :: fns_252
theorem g_136 : Good Tryz.prog ⟨tis, fns_136, [], false⟩ := g_252.cons m_laws_heldVtab
noncomputable def laws_heldBridge (a0 : Bridge) (k1 : Int) : Option Int :=
  (laws_heldPtS a0.2.2.1 k1).bind fun t8 =>
  cond (decide (t8 < 0))
    (some (-1))
    ((laws_heldFentS a0.2.2.2.1 t8).bind fun t14 =>
    cond (decide (t14 < 0))
      (some (-1))
      ((laws_heldVtab (a0.2.2.2.2.1, a0.2.2.2.2.2.1) t14).bind fun t20 =>
      cond (decide (t20 < 0)) (some (-1)) (some t20)))
noncomputable def F_laws_heldBridge : Fn := ⟨[.val true cBridge false, .val false (.one (.int .i64)) false], [.val false (.one (.int .i64)) true], fun a => laws_heldBridge a.1 a.2⟩
def a_laws_heldBridge : List (Nat × LoopAnn) := []
theorem e_laws_heldBridge : fnDen ⟨tis, fns_136, [], false⟩ a_laws_heldBridge Tryz.f48 (codeOf Tryz.f48) [.val true cBridge false, .val false (.one (.int .i64)) false] [.val false (.one (.int .i64)) true] = fun a => laws_heldBridge a.1 a.2 := by kernel_rfl
theorem m_laws_heldBridge : Meets Tryz.prog 48 F_laws_heldBridge := by
  have h := meets_of (ann := a_laws_heldBridge) (ps := [.val true cBridge false, .val false (.one (.int .i64)) false]) (rs := [.val false (.one (.int .i64)) true]) g_136 mixed Tryz.func48 (by kernel_rfl) (by kernel_rfl : Tryz.f48.body = some (codeOf Tryz.f48))
  rw [e_laws_heldBridge] at h
  exact h
noncomputable def fns_48 : List (FuncId × Fn) := (48, F_laws_heldBridge) :: fns_136
theorem g_48 : Good Tryz.prog ⟨tis, fns_48, [], false⟩ := g_136.cons m_laws_heldBridge
noncomputable def laws_heldByteS_l0 (a0 : List Int) (k1_1 : Int) (i5 : Int) : Option ((Int × Int) ⊕ (Int ⊕ Int)) :=
  cond (decide (i5 < (a0.length : Int)))
    ((at? a0 i5).bind fun x14 =>
    cond (x14 != (IntKind.u8.wrap (k1_1)))
      (some (.inr (.inr (-1))))
      (some (.inl (w64 (k1_1 + 1), w64 (i5 + 1)))))
    (some (.inr (.inl k1_1)))
noncomputable def laws_heldByteS (a0 : List Int) (k1 : Int) : Option Int :=
  (loop (fun z => laws_heldByteS_l0 a0 z.1 z.2) (k1, 0)).bind (Sum.elim (fun d =>
    some d) (fun r => some r))
noncomputable def F_laws_heldByteS : Fn := ⟨[.val false (.one (.sl (.one (.int .u8)))) false, .val false (.one (.int .i64)) false], [.val false (.one (.int .i64)) true], fun a => laws_heldByteS a.1 a.2⟩
def a_laws_heldByteS : List (Nat × LoopAnn) := [(0, ⟨⟨[(1, false, [.dat (.int .i64)]), (5, false, [.dat (.int .i64)])], []⟩,
    ⟨[(1, false, [.dat (.int .i64)])], []⟩, some ⟨[(4, false, [.dat (.int .i64)])], []⟩⟩)]
theorem e_laws_heldByteS : fnDen ⟨tis, fns_48, [], false⟩ a_laws_heldByteS Tryz.f271 (codeOf Tryz.f271) [.val false (.one (.sl (.one (.int .u8)))) false, .val false (.one (.int .i64)) false] [.val false (.one (.int .i64)) true] = fun a => laws_heldByteS a.1 a.2 := by kernel_rfl
theorem m_laws_heldByteS : Meets Tryz.prog 271 F_laws_heldByteS := by
  have h := meets_of (ann := a_laws_heldByteS) (ps := [.val false (.one (.sl (.one (.int .u8)))) false, .val false (.one (.int .i64)) false]) (rs := [.val false (.one (.int .i64)) true]) g_48 mixed Tryz.func271 (by kernel_rfl) (by kernel_rfl : Tryz.f271.body = some (codeOf Tryz.f271))
  rw [e_laws_heldByteS] at h
  exact h
noncomputable def fns_271 : List (FuncId × Fn) := (271, F_laws_heldByteS) :: fns_48
theorem g_271 : Good Tryz.prog ⟨tis, fns_271, [], false⟩ := g_48.cons m_laws_heldByteS
noncomputable def laws_heldBindS_l0 (a0 : List Bind) (k1_1 : Int) (i5 : Int) : Option ((Int × Int) ⊕ (Int ⊕ Int)) :=
  cond (decide (i5 < (a0.length : Int)))
    ((at? a0 i5).bind fun x14 =>
    (laws_heldIntS x14.1 k1_1).bind fun t18 =>
    cond (decide (t18 < 0))
      (some (.inr (.inr (-1))))
      ((at? a0 i5).bind fun x23 =>
      cond (x23.2.1 != t18)
        (some (.inr (.inr (-1))))
        ((at? a0 i5).bind fun x33 =>
        cond (x33.2.2.1 != (w64 (t18 + 1)))
          (some (.inr (.inr (-1))))
          (let k1_2 := w64 ((w64 (t18 + 1)) + 1)
          (at? a0 i5).bind fun x43 =>
          (laws_markText k1_2).bind fun t48 =>
          cond (!(x43.2.2.2.1 == t48))
            (some (.inr (.inr (-1))))
            ((at? a0 i5).bind fun x54 =>
            (laws_heldIntS x54.2.2.2.2 (w64 (k1_2 + 1))).bind fun t59 =>
            cond (decide (t59 < 0)) (some (.inr (.inr (-1)))) (some (.inl (t59, w64 (i5 + 1)))))))))
    (some (.inr (.inl k1_1)))
noncomputable def laws_heldBindS (a0 : List Bind) (k1 : Int) : Option Int :=
  (loop (fun z => laws_heldBindS_l0 a0 z.1 z.2) (k1, 0)).bind (Sum.elim (fun d =>
    some d) (fun r => some r))
noncomputable def F_laws_heldBindS : Fn := ⟨[.val false (.one (.sl cBind)) false, .val false (.one (.int .i64)) false], [.val false (.one (.int .i64)) true], fun a => laws_heldBindS a.1 a.2⟩
def a_laws_heldBindS : List (Nat × LoopAnn) := [(0, ⟨⟨[(1, false, [.dat (.int .i64)]), (5, false, [.dat (.int .i64)])], []⟩,
    ⟨[(1, false, [.dat (.int .i64)])], []⟩, some ⟨[(4, false, [.dat (.int .i64)])], []⟩⟩)]
theorem e_laws_heldBindS : fnDen ⟨tis, fns_271, [], false⟩ a_laws_heldBindS Tryz.f272 (codeOf Tryz.f272) [.val false (.one (.sl cBind)) false, .val false (.one (.int .i64)) false] [.val false (.one (.int .i64)) true] = fun a => laws_heldBindS a.1 a.2 := by kernel_rfl
theorem m_laws_heldBindS : Meets Tryz.prog 272 F_laws_heldBindS := by
  have h := meets_of (ann := a_laws_heldBindS) (ps := [.val false (.one (.sl cBind)) false, .val false (.one (.int .i64)) false]) (rs := [.val false (.one (.int .i64)) true]) g_271 mixed Tryz.func272 (by kernel_rfl) (by kernel_rfl : Tryz.f272.body = some (codeOf Tryz.f272))
  rw [e_laws_heldBindS] at h
  exact h
noncomputable def fns_272 : List (FuncId × Fn) := (272, F_laws_heldBindS) :: fns_271
theorem g_272 : Good Tryz.prog ⟨tis, fns_272, [], false⟩ := g_271.cons m_laws_heldBindS
noncomputable def laws_heldJobS_l0 (p0 : List Job) (i1_1 : Int) (t5 : Int) : Option ((Int × Int) ⊕ (Int ⊕ Int)) :=
  cond (decide (t5 < (p0.length : Int)))
    ((at? p0 t5).bind fun x14 =>
    cond (x14.1 != i1_1)
      (some (.inr (.inr (-1))))
      ((at? p0 t5).bind fun x23 =>
      (laws_heldByteS x23.2.1 (w64 (i1_1 + 1))).bind fun t27 =>
      cond (decide (t27 < 0))
        (some (.inr (.inr (-1))))
        ((at? p0 t5).bind fun x32 =>
        cond (x32.2.2.1 != t27)
          (some (.inr (.inr (-1))))
          ((at? p0 t5).bind fun x41 =>
          cond (x41.2.2.2.1 != (w64 (t27 + 1)))
            (some (.inr (.inr (-1))))
            (let i1_2 := w64 ((w64 (t27 + 1)) + 1)
            (at? p0 t5).bind fun x51 =>
            cond (x51.2.2.2.2.1 != i1_2)
              (some (.inr (.inr (-1))))
              ((at? p0 t5).bind fun x61 =>
              cond (x61.2.2.2.2.2.1 != (w64 (i1_2 + 1)))
                (some (.inr (.inr (-1))))
                (let i1_3 := w64 ((w64 (i1_2 + 1)) + 1)
                (at? p0 t5).bind fun x71 =>
                cond (x71.2.2.2.2.2.2.1 != i1_3)
                  (some (.inr (.inr (-1))))
                  ((at? p0 t5).bind fun x81 =>
                  (laws_heldBindS x81.2.2.2.2.2.2.2.1 (w64 (i1_3 + 1))).bind fun t86 =>
                  cond (decide (t86 < 0))
                    (some (.inr (.inr (-1))))
                    ((at? p0 t5).bind fun x91 =>
                    cond (x91.2.2.2.2.2.2.2.2.1 != t86)
                      (some (.inr (.inr (-1))))
                      ((at? p0 t5).bind fun x101 =>
                      (laws_markText (w64 (t86 + 1))).bind fun t106 =>
                      cond (!(x101.2.2.2.2.2.2.2.2.2.1 == t106))
                        (some (.inr (.inr (-1))))
                        (let i1_4 := w64 ((w64 (t86 + 1)) + 1)
                        (at? p0 t5).bind fun x112 =>
                        (laws_heldPtS x112.2.2.2.2.2.2.2.2.2.2.1 i1_4).bind fun t117 =>
                        cond (decide (t117 < 0))
                          (some (.inr (.inr (-1))))
                          ((at? p0 t5).bind fun x122 =>
                          (laws_heldFentS x122.2.2.2.2.2.2.2.2.2.2.2.1 t117).bind fun t127 =>
                          cond (decide (t127 < 0))
                            (some (.inr (.inr (-1))))
                            ((at? p0 t5).bind fun x132 =>
                            (laws_heldVrowS x132.2.2.2.2.2.2.2.2.2.2.2.2.1 t127).bind fun t138 =>
                            cond (decide (t138 < 0))
                              (some (.inr (.inr (-1))))
                              ((at? p0 t5).bind fun x143 =>
                              (laws_heldIntS x143.2.2.2.2.2.2.2.2.2.2.2.2.2.1 t138).bind fun t149 =>
                              cond (decide (t149 < 0))
                                (some (.inr (.inr (-1))))
                                ((at? p0 t5).bind fun x154 =>
                                cond (x154.2.2.2.2.2.2.2.2.2.2.2.2.2.2.1 != t149)
                                  (some (.inr (.inr (-1))))
                                  ((at? p0 t5).bind fun x164 =>
                                  cond (x164.2.2.2.2.2.2.2.2.2.2.2.2.2.2.2.1 != (w64 (t149 + 1)))
                                    (some (.inr (.inr (-1))))
                                    (let i1_5 := w64 ((w64 (t149 + 1)) + 1)
                                    (at? p0 t5).bind fun x174 =>
                                    cond (x174.2.2.2.2.2.2.2.2.2.2.2.2.2.2.2.2.1 != i1_5)
                                      (some (.inr (.inr (-1))))
                                      ((at? p0 t5).bind fun x184 =>
                                      cond (x184.2.2.2.2.2.2.2.2.2.2.2.2.2.2.2.2.2.1 != (w64 (i1_5 + 1)))
                                        (some (.inr (.inr (-1))))
                                        (let i1_6 := w64 ((w64 (i1_5 + 1)) + 1)
                                        (at? p0 t5).bind fun x194 =>
                                        cond (x194.2.2.2.2.2.2.2.2.2.2.2.2.2.2.2.2.2.2.1 != i1_6)
                                          (some (.inr (.inr (-1))))
                                          ((at? p0 t5).bind fun x204 =>
                                          cond (x204.2.2.2.2.2.2.2.2.2.2.2.2.2.2.2.2.2.2.2.1 != (w64 (i1_6 + 1)))
                                            (some (.inr (.inr (-1))))
                                            (let i1_7 := w64 ((w64 (i1_6 + 1)) + 1)
                                            (at? p0 t5).bind fun x213 =>
                                            cond (x213.2.2.2.2.2.2.2.2.2.2.2.2.2.2.2.2.2.2.2.2 != i1_7)
                                              (some (.inr (.inr (-1))))
                                              (some (.inl (w64 (i1_7 + 1), w64 (t5 + 1)))))))))))))))))))))))))
    (some (.inr (.inl i1_1)))
noncomputable def laws_heldJobS (p0 : List Job) (i1 : Int) : Option Int :=
  (loop (fun z => laws_heldJobS_l0 p0 z.1 z.2) (i1, 0)).bind (Sum.elim (fun d =>
    some d) (fun r => some r))
noncomputable def F_laws_heldJobS : Fn := ⟨[.val false (.one (.sl cJob)) false, .val false (.one (.int .i64)) false], [.val false (.one (.int .i64)) true], fun a => laws_heldJobS a.1 a.2⟩
def a_laws_heldJobS : List (Nat × LoopAnn) := [(0, ⟨⟨[(1, false, [.dat (.int .i64)]), (5, false, [.dat (.int .i64)])], []⟩,
    ⟨[(1, false, [.dat (.int .i64)])], []⟩, some ⟨[(4, false, [.dat (.int .i64)])], []⟩⟩)]
theorem e_laws_heldJobS : fnDen ⟨tis, fns_272, [], false⟩ a_laws_heldJobS Tryz.f158 (codeOf Tryz.f158) [.val false (.one (.sl cJob)) false, .val false (.one (.int .i64)) false] [.val false (.one (.int .i64)) true] = fun a => laws_heldJobS a.1 a.2 := by kernel_rfl
theorem m_laws_heldJobS : Meets Tryz.prog 158 F_laws_heldJobS := by
  have h := meets_of (ann := a_laws_heldJobS) (ps := [.val false (.one (.sl cJob)) false, .val false (.one (.int .i64)) false]) (rs := [.val false (.one (.int .i64)) true]) g_272 mixed Tryz.func158 (by kernel_rfl) (by kernel_rfl : Tryz.f158.body = some (codeOf Tryz.f158))
  rw [e_laws_heldJobS] at h
  exact h
noncomputable def fns_158 : List (FuncId × Fn) := (158, F_laws_heldJobS) :: fns_272
theorem g_158 : Good Tryz.prog ⟨tis, fns_158, [], false⟩ := g_272.cons m_laws_heldJobS
noncomputable def laws_heldAgent (a0 : Agent) (k1 : Int) : Option Int :=
  (laws_heldBridge (a0.1, a0.2.1, a0.2.2.1, a0.2.2.2.1, a0.2.2.2.2.1, a0.2.2.2.2.2.1, a0.2.2.2.2.2.2.1, a0.2.2.2.2.2.2.2.1, a0.2.2.2.2.2.2.2.2.1, a0.2.2.2.2.2.2.2.2.2.1, a0.2.2.2.2.2.2.2.2.2.2.1) k1).bind fun t8 =>
  cond (decide (t8 < 0))
    (some (-1))
    ((laws_heldJobS a0.2.2.2.2.2.2.2.2.2.2.2.2.1 t8).bind fun t14 =>
    cond (decide (t14 < 0)) (some (-1)) (some t14))
noncomputable def F_laws_heldAgent : Fn := ⟨[.val true cAgent false, .val false (.one (.int .i64)) false], [.val false (.one (.int .i64)) true], fun a => laws_heldAgent a.1 a.2⟩
def a_laws_heldAgent : List (Nat × LoopAnn) := []
theorem e_laws_heldAgent : fnDen ⟨tis, fns_158, [], false⟩ a_laws_heldAgent Tryz.f64 (codeOf Tryz.f64) [.val true cAgent false, .val false (.one (.int .i64)) false] [.val false (.one (.int .i64)) true] = fun a => laws_heldAgent a.1 a.2 := by kernel_rfl
theorem m_laws_heldAgent : Meets Tryz.prog 64 F_laws_heldAgent := by
  have h := meets_of (ann := a_laws_heldAgent) (ps := [.val true cAgent false, .val false (.one (.int .i64)) false]) (rs := [.val false (.one (.int .i64)) true]) g_158 mixed Tryz.func64 (by kernel_rfl) (by kernel_rfl : Tryz.f64.body = some (codeOf Tryz.f64))
  rw [e_laws_heldAgent] at h
  exact h
noncomputable def fns_64 : List (FuncId × Fn) := (64, F_laws_heldAgent) :: fns_158
theorem g_64 : Good Tryz.prog ⟨tis, fns_64, [], false⟩ := g_158.cons m_laws_heldAgent
noncomputable def laws_markPtS_l0 (i1 : Int) (t5 : Int) (l : List Pt) : Option ((Int × Int × List Pt) ⊕ (Int × List Pt)) :=
  cond (decide (t5 < (l.length : Int)))
    ((ix l.length t5).bind fun j17 =>
    (l[j17]?).bind fun x =>
    let ls : List Pt := l.set j17 ((i1.tmod 3) == 0, x.2.1, x.2.2.1, x.2.2.2.1, x.2.2.2.2.1, x.2.2.2.2.2.1, x.2.2.2.2.2.2.1, x.2.2.2.2.2.2.2)
    (ix ls.length t5).bind fun j24 =>
    (ls[j24]?).bind fun x_1 =>
    let ls_1 : List Pt := ls.set j24 (x_1.1, w64 (i1 + 1), x_1.2.2.1, x_1.2.2.2.1, x_1.2.2.2.2.1, x_1.2.2.2.2.2.1, x_1.2.2.2.2.2.2.1, x_1.2.2.2.2.2.2.2)
    (ix ls_1.length t5).bind fun j33 =>
    (ls_1[j33]?).bind fun x_2 =>
    let ls_2 : List Pt := ls_1.set j33 (x_2.1, x_2.2.1, ((w64 ((w64 (i1 + 1)) + 1)).tmod 3) == 0, x_2.2.2.2.1, x_2.2.2.2.2.1, x_2.2.2.2.2.2.1, x_2.2.2.2.2.2.2.1, x_2.2.2.2.2.2.2.2)
    let i1_1 := w64 ((w64 ((w64 (i1 + 1)) + 1)) + 1)
    (ix ls_2.length t5).bind fun j40 =>
    (ls_2[j40]?).bind fun x_3 =>
    let ls_3 : List Pt := ls_2.set j40 (x_3.1, x_3.2.1, x_3.2.2.1, i1_1, x_3.2.2.2.2.1, x_3.2.2.2.2.2.1, x_3.2.2.2.2.2.2.1, x_3.2.2.2.2.2.2.2)
    (ix ls_3.length t5).bind fun j48 =>
    (ls_3[j48]?).bind fun x_4 =>
    let ls_4 : List Pt := ls_3.set j48 (x_4.1, x_4.2.1, x_4.2.2.1, x_4.2.2.2.1, w64 (i1_1 + 1), x_4.2.2.2.2.2.1, x_4.2.2.2.2.2.2.1, x_4.2.2.2.2.2.2.2)
    let i1_2 := w64 ((w64 (i1_1 + 1)) + 1)
    (ix ls_4.length t5).bind fun j56 =>
    (ls_4[j56]?).bind fun x_5 =>
    let ls_5 : List Pt := ls_4.set j56 (x_5.1, x_5.2.1, x_5.2.2.1, x_5.2.2.2.1, x_5.2.2.2.2.1, i1_2, x_5.2.2.2.2.2.2.1, x_5.2.2.2.2.2.2.2)
    (ix ls_5.length t5).bind fun j64 =>
    (ls_5[j64]?).bind fun x_6 =>
    let ls_6 : List Pt := ls_5.set j64 (x_6.1, x_6.2.1, x_6.2.2.1, x_6.2.2.2.1, x_6.2.2.2.2.1, x_6.2.2.2.2.2.1, w64 (i1_2 + 1), x_6.2.2.2.2.2.2.2)
    let i1_3 := w64 ((w64 (i1_2 + 1)) + 1)
    (ix ls_6.length t5).bind fun j72 =>
    (ls_6[j72]?).bind fun x_7 =>
    let ls_7 : List Pt := ls_6.set j72 (x_7.1, x_7.2.1, x_7.2.2.1, x_7.2.2.2.1, x_7.2.2.2.2.1, x_7.2.2.2.2.2.1, x_7.2.2.2.2.2.2.1, i1_3)
    some (.inl (w64 (i1_3 + 1), w64 (t5 + 1), ls_7)))
    (some (.inr (i1, l)))
noncomputable def laws_markPtS (a0 : List Pt) (k1 : Int) : Option ((List Pt) × Int) :=
  (loop (fun z => laws_markPtS_l0 z.1 z.2.1 z.2.2) (k1, 0, a0)).bind fun d =>
  some (d.2, d.1)
theorem gt_0 : Good Tryz.prog ⟨tis, fns_64, [], true⟩ := g_64.trees marks_nil
noncomputable def K_laws_markPtS : MFn := ⟨false, (.one (.sl cPt)), fun a k => laws_markPtS a k⟩
def a_laws_markPtS : List (Nat × LoopAnn) := [(0, ⟨⟨[(1, false, [.dat (.int .i64)]), (5, false, [.dat (.int .i64)])], [(1, .tree cPt)]⟩,
    ⟨[(1, false, [.dat (.int .i64)])], [(1, .tree cPt)]⟩, none⟩)]
theorem e_laws_markPtS : markDen ⟨tis, fns_64, [], true⟩ a_laws_markPtS Tryz.f129 (codeOf Tryz.f129) false (.one (.sl cPt)) = fun a k => laws_markPtS a k := by kernel_rfl
theorem k_laws_markPtS : Marks Tryz.prog 129 K_laws_markPtS := by
  have h := marks_of (ann := a_laws_markPtS) (agg := false) (cs := (.one (.sl cPt))) gt_0 mixed Tryz.func129 (by kernel_rfl) (by kernel_rfl : Tryz.f129.body = some (codeOf Tryz.f129))
  rw [e_laws_markPtS] at h
  exact h
noncomputable def marks_129 : List (FuncId × MFn) := (129, K_laws_markPtS) :: []
theorem mk_129 : ∀ f M, find marks_129 f = some M → Marks Tryz.prog f M := marks_cons marks_nil k_laws_markPtS
theorem gt_129 : Good Tryz.prog ⟨tis, fns_64, marks_129, true⟩ := g_64.trees mk_129
noncomputable def laws_markFentS_l0 (k1_1 : Int) (i5 : Int) (l : List Fent) : Option ((Int × Int × List Fent) ⊕ (Int × List Fent)) :=
  cond (decide (i5 < (l.length : Int)))
    ((ix l.length i5).bind fun j15 =>
    (l[j15]?).bind fun x =>
    let ls : List Fent := l.set j15 (k1_1, x.2.1, x.2.2.1, x.2.2.2.1, x.2.2.2.2)
    (ix ls.length i5).bind fun j22 =>
    (ls[j22]?).bind fun x_1 =>
    let ls_1 : List Fent := ls.set j22 (x_1.1, w64 (k1_1 + 1), x_1.2.2.1, x_1.2.2.2.1, x_1.2.2.2.2)
    let k1_2 := w64 ((w64 (k1_1 + 1)) + 1)
    (ix ls_1.length i5).bind fun j29 =>
    (ls_1[j29]?).bind fun x_2 =>
    let ls_2 : List Fent := ls_1.set j29 (x_2.1, x_2.2.1, k1_2, x_2.2.2.2.1, x_2.2.2.2.2)
    (ix ls_2.length i5).bind fun j36 =>
    (ls_2[j36]?).bind fun x_3 =>
    let ls_3 : List Fent := ls_2.set j36 (x_3.1, x_3.2.1, x_3.2.2.1, w64 (k1_2 + 1), x_3.2.2.2.2)
    let k1_3 := w64 ((w64 (k1_2 + 1)) + 1)
    (ix ls_3.length i5).bind fun j45 =>
    (ls_3[j45]?).bind fun x_4 =>
    let ls_4 : List Fent := ls_3.set j45 (x_4.1, x_4.2.1, x_4.2.2.1, x_4.2.2.2.1, (k1_3.tmod 3) == 0)
    some (.inl (w64 (k1_3 + 1), w64 (i5 + 1), ls_4)))
    (some (.inr (k1_1, l)))
noncomputable def laws_markFentS (a0 : List Fent) (k1 : Int) : Option ((List Fent) × Int) :=
  (loop (fun z => laws_markFentS_l0 z.1 z.2.1 z.2.2) (k1, 0, a0)).bind fun d =>
  some (d.2, d.1)
noncomputable def K_laws_markFentS : MFn := ⟨false, (.one (.sl cFent)), fun a k => laws_markFentS a k⟩
def a_laws_markFentS : List (Nat × LoopAnn) := [(0, ⟨⟨[(1, false, [.dat (.int .i64)]), (5, false, [.dat (.int .i64)])], [(1, .tree cFent)]⟩,
    ⟨[(1, false, [.dat (.int .i64)])], [(1, .tree cFent)]⟩, none⟩)]
theorem e_laws_markFentS : markDen ⟨tis, fns_64, marks_129, true⟩ a_laws_markFentS Tryz.f130 (codeOf Tryz.f130) false (.one (.sl cFent)) = fun a k => laws_markFentS a k := by kernel_rfl
theorem k_laws_markFentS : Marks Tryz.prog 130 K_laws_markFentS := by
  have h := marks_of (ann := a_laws_markFentS) (agg := false) (cs := (.one (.sl cFent))) gt_129 mixed Tryz.func130 (by kernel_rfl) (by kernel_rfl : Tryz.f130.body = some (codeOf Tryz.f130))
  rw [e_laws_markFentS] at h
  exact h
noncomputable def marks_130 : List (FuncId × MFn) := (130, K_laws_markFentS) :: marks_129
theorem mk_130 : ∀ f M, find marks_130 f = some M → Marks Tryz.prog f M := marks_cons mk_129 k_laws_markFentS
theorem gt_130 : Good Tryz.prog ⟨tis, fns_64, marks_130, true⟩ := g_64.trees mk_130
noncomputable def laws_markIntS_l0 (k1_1 : Int) (i5 : Int) (l : List Int) : Option ((Int × Int × List Int) ⊕ (Int × List Int)) :=
  cond (decide (i5 < (l.length : Int)))
    ((ix l.length i5).bind fun j15 =>
    (l[j15]?).bind fun x =>
    let ls : List Int := l.set j15 k1_1
    some (.inl (w64 (k1_1 + 1), w64 (i5 + 1), ls)))
    (some (.inr (k1_1, l)))
noncomputable def laws_markIntS (a0 : List Int) (k1 : Int) : Option ((List Int) × Int) :=
  (loop (fun z => laws_markIntS_l0 z.1 z.2.1 z.2.2) (k1, 0, a0)).bind fun d =>
  some (d.2, d.1)
noncomputable def K_laws_markIntS : MFn := ⟨false, (.one (.sl (.one (.int .i64)))), fun a k => laws_markIntS a k⟩
def a_laws_markIntS : List (Nat × LoopAnn) := [(0, ⟨⟨[(1, false, [.dat (.int .i64)]), (5, false, [.dat (.int .i64)])], [(1, .tree (.one (.int .i64)))]⟩,
    ⟨[(1, false, [.dat (.int .i64)])], [(1, .tree (.one (.int .i64)))]⟩, none⟩)]
theorem e_laws_markIntS : markDen ⟨tis, fns_64, marks_130, true⟩ a_laws_markIntS Tryz.f132 (codeOf Tryz.f132) false (.one (.sl (.one (.int .i64)))) = fun a k => laws_markIntS a k := by kernel_rfl
theorem k_laws_markIntS : Marks Tryz.prog 132 K_laws_markIntS := by
  have h := marks_of (ann := a_laws_markIntS) (agg := false) (cs := (.one (.sl (.one (.int .i64))))) gt_130 mixed Tryz.func132 (by kernel_rfl) (by kernel_rfl : Tryz.f132.body = some (codeOf Tryz.f132))
  rw [e_laws_markIntS] at h
  exact h
noncomputable def marks_132 : List (FuncId × MFn) := (132, K_laws_markIntS) :: marks_130
theorem mk_132 : ∀ f M, find marks_132 f = some M → Marks Tryz.prog f M := marks_cons mk_130 k_laws_markIntS
theorem gt_132 : Good Tryz.prog ⟨tis, fns_64, marks_132, true⟩ := g_64.trees mk_132
noncomputable def laws_markVrowS_l0 (k1_1 : Int) (i5 : Int) (l : List Vrow) : Option ((Int × Int × List Vrow) ⊕ (Int × List Vrow)) :=
  cond (decide (i5 < (l.length : Int)))
    ((ix l.length i5).bind fun j15 =>
    (l[j15]?).bind fun x =>
    let ls : List Vrow := l.set j15 (k1_1, x.2.1, x.2.2)
    (ix ls.length i5).bind fun j22 =>
    (ls[j22]?).bind fun x_1 =>
    let ls_1 : List Vrow := ls.set j22 (x_1.1, w64 (k1_1 + 1), x_1.2.2)
    let k1_2 := w64 ((w64 (k1_1 + 1)) + 1)
    (ix ls_1.length i5).bind fun j29 =>
    (ls_1[j29]?).bind fun x_2 =>
    let ls_2 : List Vrow := ls_1.set j29 (x_2.1, x_2.2.1, k1_2)
    some (.inl (w64 (k1_2 + 1), w64 (i5 + 1), ls_2)))
    (some (.inr (k1_1, l)))
noncomputable def laws_markVrowS (a0 : List Vrow) (k1 : Int) : Option ((List Vrow) × Int) :=
  (loop (fun z => laws_markVrowS_l0 z.1 z.2.1 z.2.2) (k1, 0, a0)).bind fun d =>
  some (d.2, d.1)
noncomputable def K_laws_markVrowS : MFn := ⟨false, (.one (.sl cVrow)), fun a k => laws_markVrowS a k⟩
def a_laws_markVrowS : List (Nat × LoopAnn) := [(0, ⟨⟨[(1, false, [.dat (.int .i64)]), (5, false, [.dat (.int .i64)])], [(1, .tree cVrow)]⟩,
    ⟨[(1, false, [.dat (.int .i64)])], [(1, .tree cVrow)]⟩, none⟩)]
theorem e_laws_markVrowS : markDen ⟨tis, fns_64, marks_132, true⟩ a_laws_markVrowS Tryz.f250 (codeOf Tryz.f250) false (.one (.sl cVrow)) = fun a k => laws_markVrowS a k := by kernel_rfl
theorem k_laws_markVrowS : Marks Tryz.prog 250 K_laws_markVrowS := by
  have h := marks_of (ann := a_laws_markVrowS) (agg := false) (cs := (.one (.sl cVrow))) gt_132 mixed Tryz.func250 (by kernel_rfl) (by kernel_rfl : Tryz.f250.body = some (codeOf Tryz.f250))
  rw [e_laws_markVrowS] at h
  exact h
noncomputable def marks_250 : List (FuncId × MFn) := (250, K_laws_markVrowS) :: marks_132
theorem mk_250 : ∀ f M, find marks_250 f = some M → Marks Tryz.prog f M := marks_cons mk_132 k_laws_markVrowS
theorem gt_250 : Good Tryz.prog ⟨tis, fns_64, marks_250, true⟩ := g_64.trees mk_250
noncomputable def laws_markVtab (a0 : Vtab) (k1 : Int) : Option (Vtab × Int) :=
  (laws_markVrowS a0.1 k1).bind fun z =>
  (laws_markIntS a0.2 z.2).bind fun z_1 =>
  some ((z.1, z_1.1), z_1.2)
noncomputable def K_laws_markVtab : MFn := ⟨true, cVtab, fun a k => laws_markVtab a k⟩
def a_laws_markVtab : List (Nat × LoopAnn) := []
theorem e_laws_markVtab : markDen ⟨tis, fns_64, marks_250, true⟩ a_laws_markVtab Tryz.f131 (codeOf Tryz.f131) true cVtab = fun a k => laws_markVtab a k := by kernel_rfl
theorem k_laws_markVtab : Marks Tryz.prog 131 K_laws_markVtab := by
  have h := marks_of (ann := a_laws_markVtab) (agg := true) (cs := cVtab) gt_250 mixed Tryz.func131 (by kernel_rfl) (by kernel_rfl : Tryz.f131.body = some (codeOf Tryz.f131))
  rw [e_laws_markVtab] at h
  exact h
noncomputable def marks_131 : List (FuncId × MFn) := (131, K_laws_markVtab) :: marks_250
theorem mk_131 : ∀ f M, find marks_131 f = some M → Marks Tryz.prog f M := marks_cons mk_250 k_laws_markVtab
theorem gt_131 : Good Tryz.prog ⟨tis, fns_64, marks_131, true⟩ := g_64.trees mk_131
noncomputable def laws_markBridge (a0 : Bridge) (k1 : Int) : Option (Bridge × Int) :=
  (laws_markPtS a0.2.2.1 k1).bind fun z =>
  (laws_markFentS a0.2.2.2.1 z.2).bind fun z_1 =>
  (laws_markVtab (a0.2.2.2.2.1, a0.2.2.2.2.2.1) z_1.2).bind fun z_2 =>
  some ((a0.1, a0.2.1, z.1, z_1.1, z_2.1.1, z_2.1.2, a0.2.2.2.2.2.2.1, a0.2.2.2.2.2.2.2.1, a0.2.2.2.2.2.2.2.2.1, a0.2.2.2.2.2.2.2.2.2.1, a0.2.2.2.2.2.2.2.2.2.2), z_2.2)
noncomputable def K_laws_markBridge : MFn := ⟨true, cBridge, fun a k => laws_markBridge a k⟩
def a_laws_markBridge : List (Nat × LoopAnn) := []
theorem e_laws_markBridge : markDen ⟨tis, fns_64, marks_131, true⟩ a_laws_markBridge Tryz.f46 (codeOf Tryz.f46) true cBridge = fun a k => laws_markBridge a k := by kernel_rfl
theorem k_laws_markBridge : Marks Tryz.prog 46 K_laws_markBridge := by
  have h := marks_of (ann := a_laws_markBridge) (agg := true) (cs := cBridge) gt_131 mixed Tryz.func46 (by kernel_rfl) (by kernel_rfl : Tryz.f46.body = some (codeOf Tryz.f46))
  rw [e_laws_markBridge] at h
  exact h
noncomputable def marks_46 : List (FuncId × MFn) := (46, K_laws_markBridge) :: marks_131
theorem mk_46 : ∀ f M, find marks_46 f = some M → Marks Tryz.prog f M := marks_cons mk_131 k_laws_markBridge
theorem gt_46 : Good Tryz.prog ⟨tis, fns_64, marks_46, true⟩ := g_64.trees mk_46
noncomputable def laws_markBindS_l0 (k1_1 : Int) (i5 : Int) (l : List Bind) : Option ((Int × Int × List Bind) ⊕ (Int × List Bind)) :=
  cond (decide (i5 < (l.length : Int)))
    ((ix l.length i5).bind fun j14 =>
    (l[j14]?).bind fun x16 =>
    (l[j14]?).bind fun x =>
    (laws_markIntS x.1 k1_1).bind fun z =>
    let ls : List Bind := l.set j14 (z.1, x.2.1, x.2.2.1, x.2.2.2.1, x.2.2.2.2)
    (ix ls.length i5).bind fun j22 =>
    (ls[j22]?).bind fun x_1 =>
    let ls_1 : List Bind := ls.set j22 (x_1.1, z.2, x_1.2.2.1, x_1.2.2.2.1, x_1.2.2.2.2)
    (ix ls_1.length i5).bind fun j30 =>
    (ls_1[j30]?).bind fun x_2 =>
    let ls_2 : List Bind := ls_1.set j30 (x_2.1, x_2.2.1, w64 (z.2 + 1), x_2.2.2.2.1, x_2.2.2.2.2)
    let k1_2 := w64 ((w64 (z.2 + 1)) + 1)
    (laws_markText k1_2).bind fun t38 =>
    (ix ls_2.length i5).bind fun j39 =>
    (ls_2[j39]?).bind fun x_3 =>
    let ls_3 : List Bind := ls_2.set j39 (x_3.1, x_3.2.1, x_3.2.2.1, t38, x_3.2.2.2.2)
    (ix ls_3.length i5).bind fun j46 =>
    (ls_3[j46]?).bind fun x49 =>
    (ls_3[j46]?).bind fun x_4 =>
    (laws_markIntS x_4.2.2.2.2 (w64 (k1_2 + 1))).bind fun z_1 =>
    let ls_4 : List Bind := ls_3.set j46 (x_4.1, x_4.2.1, x_4.2.2.1, x_4.2.2.2.1, z_1.1)
    some (.inl (z_1.2, w64 (i5 + 1), ls_4)))
    (some (.inr (k1_1, l)))
noncomputable def laws_markBindS (a0 : List Bind) (k1 : Int) : Option ((List Bind) × Int) :=
  (loop (fun z => laws_markBindS_l0 z.1 z.2.1 z.2.2) (k1, 0, a0)).bind fun d =>
  some (d.2, d.1)
noncomputable def K_laws_markBindS : MFn := ⟨false, (.one (.sl cBind)), fun a k => laws_markBindS a k⟩
def a_laws_markBindS : List (Nat × LoopAnn) := [(0, ⟨⟨[(1, false, [.dat (.int .i64)]), (5, false, [.dat (.int .i64)])], [(1, .tree cBind)]⟩,
    ⟨[(1, false, [.dat (.int .i64)])], [(1, .tree cBind)]⟩, none⟩)]
theorem e_laws_markBindS : markDen ⟨tis, fns_64, marks_46, true⟩ a_laws_markBindS Tryz.f47 (codeOf Tryz.f47) false (.one (.sl cBind)) = fun a k => laws_markBindS a k := by kernel_rfl
theorem k_laws_markBindS : Marks Tryz.prog 47 K_laws_markBindS := by
  have h := marks_of (ann := a_laws_markBindS) (agg := false) (cs := (.one (.sl cBind))) gt_46 mixed Tryz.func47 (by kernel_rfl) (by kernel_rfl : Tryz.f47.body = some (codeOf Tryz.f47))
  rw [e_laws_markBindS] at h
  exact h
noncomputable def marks_47 : List (FuncId × MFn) := (47, K_laws_markBindS) :: marks_46
theorem mk_47 : ∀ f M, find marks_47 f = some M → Marks Tryz.prog f M := marks_cons mk_46 k_laws_markBindS
theorem gt_47 : Good Tryz.prog ⟨tis, fns_64, marks_47, true⟩ := g_64.trees mk_47
noncomputable def laws_markByteS_l0 (k1_1 : Int) (i5 : Int) (l : List Int) : Option ((Int × Int × List Int) ⊕ (Int × List Int)) :=
  cond (decide (i5 < (l.length : Int)))
    ((ix l.length i5).bind fun j16 =>
    (l[j16]?).bind fun x =>
    let ls : List Int := l.set j16 (IntKind.u8.wrap (k1_1))
    some (.inl (w64 (k1_1 + 1), w64 (i5 + 1), ls)))
    (some (.inr (k1_1, l)))
noncomputable def laws_markByteS (a0 : List Int) (k1 : Int) : Option ((List Int) × Int) :=
  (loop (fun z => laws_markByteS_l0 z.1 z.2.1 z.2.2) (k1, 0, a0)).bind fun d =>
  some (d.2, d.1)
noncomputable def K_laws_markByteS : MFn := ⟨false, (.one (.sl (.one (.int .u8)))), fun a k => laws_markByteS a k⟩
def a_laws_markByteS : List (Nat × LoopAnn) := [(0, ⟨⟨[(1, false, [.dat (.int .i64)]), (5, false, [.dat (.int .i64)])], [(1, .tree (.one (.int .u8)))]⟩,
    ⟨[(1, false, [.dat (.int .i64)])], [(1, .tree (.one (.int .u8)))]⟩, none⟩)]
theorem e_laws_markByteS : markDen ⟨tis, fns_64, marks_47, true⟩ a_laws_markByteS Tryz.f63 (codeOf Tryz.f63) false (.one (.sl (.one (.int .u8)))) = fun a k => laws_markByteS a k := by kernel_rfl
theorem k_laws_markByteS : Marks Tryz.prog 63 K_laws_markByteS := by
  have h := marks_of (ann := a_laws_markByteS) (agg := false) (cs := (.one (.sl (.one (.int .u8))))) gt_47 mixed Tryz.func63 (by kernel_rfl) (by kernel_rfl : Tryz.f63.body = some (codeOf Tryz.f63))
  rw [e_laws_markByteS] at h
  exact h
noncomputable def marks_63 : List (FuncId × MFn) := (63, K_laws_markByteS) :: marks_47
theorem mk_63 : ∀ f M, find marks_63 f = some M → Marks Tryz.prog f M := marks_cons mk_47 k_laws_markByteS
theorem gt_63 : Good Tryz.prog ⟨tis, fns_64, marks_63, true⟩ := g_64.trees mk_63
noncomputable def laws_markJobS_l0 (i1 : Int) (t5 : Int) (l : List Job) : Option ((Int × Int × List Job) ⊕ (Int × List Job)) :=
  cond (decide (t5 < (l.length : Int)))
    ((ix l.length t5).bind fun j15 =>
    (l[j15]?).bind fun x =>
    let ls : List Job := l.set j15 (i1, x.2.1, x.2.2.1, x.2.2.2.1, x.2.2.2.2.1, x.2.2.2.2.2.1, x.2.2.2.2.2.2.1, x.2.2.2.2.2.2.2.1, x.2.2.2.2.2.2.2.2.1, x.2.2.2.2.2.2.2.2.2.1, x.2.2.2.2.2.2.2.2.2.2.1, x.2.2.2.2.2.2.2.2.2.2.2.1, x.2.2.2.2.2.2.2.2.2.2.2.2.1, x.2.2.2.2.2.2.2.2.2.2.2.2.2.1, x.2.2.2.2.2.2.2.2.2.2.2.2.2.2.1, x.2.2.2.2.2.2.2.2.2.2.2.2.2.2.2.1, x.2.2.2.2.2.2.2.2.2.2.2.2.2.2.2.2.1, x.2.2.2.2.2.2.2.2.2.2.2.2.2.2.2.2.2.1, x.2.2.2.2.2.2.2.2.2.2.2.2.2.2.2.2.2.2.1, x.2.2.2.2.2.2.2.2.2.2.2.2.2.2.2.2.2.2.2.1, x.2.2.2.2.2.2.2.2.2.2.2.2.2.2.2.2.2.2.2.2)
    (ix ls.length t5).bind fun j21 =>
    (ls[j21]?).bind fun x23 =>
    (ls[j21]?).bind fun x_1 =>
    (laws_markByteS x_1.2.1 (w64 (i1 + 1))).bind fun z =>
    let ls_1 : List Job := ls.set j21 (x_1.1, z.1, x_1.2.2.1, x_1.2.2.2.1, x_1.2.2.2.2.1, x_1.2.2.2.2.2.1, x_1.2.2.2.2.2.2.1, x_1.2.2.2.2.2.2.2.1, x_1.2.2.2.2.2.2.2.2.1, x_1.2.2.2.2.2.2.2.2.2.1, x_1.2.2.2.2.2.2.2.2.2.2.1, x_1.2.2.2.2.2.2.2.2.2.2.2.1, x_1.2.2.2.2.2.2.2.2.2.2.2.2.1, x_1.2.2.2.2.2.2.2.2.2.2.2.2.2.1, x_1.2.2.2.2.2.2.2.2.2.2.2.2.2.2.1, x_1.2.2.2.2.2.2.2.2.2.2.2.2.2.2.2.1, x_1.2.2.2.2.2.2.2.2.2.2.2.2.2.2.2.2.1, x_1.2.2.2.2.2.2.2.2.2.2.2.2.2.2.2.2.2.1, x_1.2.2.2.2.2.2.2.2.2.2.2.2.2.2.2.2.2.2.1, x_1.2.2.2.2.2.2.2.2.2.2.2.2.2.2.2.2.2.2.2.1, x_1.2.2.2.2.2.2.2.2.2.2.2.2.2.2.2.2.2.2.2.2)
    (ix ls_1.length t5).bind fun j29 =>
    (ls_1[j29]?).bind fun x_2 =>
    let ls_2 : List Job := ls_1.set j29 (x_2.1, x_2.2.1, z.2, x_2.2.2.2.1, x_2.2.2.2.2.1, x_2.2.2.2.2.2.1, x_2.2.2.2.2.2.2.1, x_2.2.2.2.2.2.2.2.1, x_2.2.2.2.2.2.2.2.2.1, x_2.2.2.2.2.2.2.2.2.2.1, x_2.2.2.2.2.2.2.2.2.2.2.1, x_2.2.2.2.2.2.2.2.2.2.2.2.1, x_2.2.2.2.2.2.2.2.2.2.2.2.2.1, x_2.2.2.2.2.2.2.2.2.2.2.2.2.2.1, x_2.2.2.2.2.2.2.2.2.2.2.2.2.2.2.1, x_2.2.2.2.2.2.2.2.2.2.2.2.2.2.2.2.1, x_2.2.2.2.2.2.2.2.2.2.2.2.2.2.2.2.2.1, x_2.2.2.2.2.2.2.2.2.2.2.2.2.2.2.2.2.2.1, x_2.2.2.2.2.2.2.2.2.2.2.2.2.2.2.2.2.2.2.1, x_2.2.2.2.2.2.2.2.2.2.2.2.2.2.2.2.2.2.2.2.1, x_2.2.2.2.2.2.2.2.2.2.2.2.2.2.2.2.2.2.2.2.2)
    (ix ls_2.length t5).bind fun j36 =>
    (ls_2[j36]?).bind fun x_3 =>
    let ls_3 : List Job := ls_2.set j36 (x_3.1, x_3.2.1, x_3.2.2.1, w64 (z.2 + 1), x_3.2.2.2.2.1, x_3.2.2.2.2.2.1, x_3.2.2.2.2.2.2.1, x_3.2.2.2.2.2.2.2.1, x_3.2.2.2.2.2.2.2.2.1, x_3.2.2.2.2.2.2.2.2.2.1, x_3.2.2.2.2.2.2.2.2.2.2.1, x_3.2.2.2.2.2.2.2.2.2.2.2.1, x_3.2.2.2.2.2.2.2.2.2.2.2.2.1, x_3.2.2.2.2.2.2.2.2.2.2.2.2.2.1, x_3.2.2.2.2.2.2.2.2.2.2.2.2.2.2.1, x_3.2.2.2.2.2.2.2.2.2.2.2.2.2.2.2.1, x_3.2.2.2.2.2.2.2.2.2.2.2.2.2.2.2.2.1, x_3.2.2.2.2.2.2.2.2.2.2.2.2.2.2.2.2.2.1, x_3.2.2.2.2.2.2.2.2.2.2.2.2.2.2.2.2.2.2.1, x_3.2.2.2.2.2.2.2.2.2.2.2.2.2.2.2.2.2.2.2.1, x_3.2.2.2.2.2.2.2.2.2.2.2.2.2.2.2.2.2.2.2.2)
    let i1_1 := w64 ((w64 (z.2 + 1)) + 1)
    (ix ls_3.length t5).bind fun j44 =>
    (ls_3[j44]?).bind fun x_4 =>
    let ls_4 : List Job := ls_3.set j44 (x_4.1, x_4.2.1, x_4.2.2.1, x_4.2.2.2.1, i1_1, x_4.2.2.2.2.2.1, x_4.2.2.2.2.2.2.1, x_4.2.2.2.2.2.2.2.1, x_4.2.2.2.2.2.2.2.2.1, x_4.2.2.2.2.2.2.2.2.2.1, x_4.2.2.2.2.2.2.2.2.2.2.1, x_4.2.2.2.2.2.2.2.2.2.2.2.1, x_4.2.2.2.2.2.2.2.2.2.2.2.2.1, x_4.2.2.2.2.2.2.2.2.2.2.2.2.2.1, x_4.2.2.2.2.2.2.2.2.2.2.2.2.2.2.1, x_4.2.2.2.2.2.2.2.2.2.2.2.2.2.2.2.1, x_4.2.2.2.2.2.2.2.2.2.2.2.2.2.2.2.2.1, x_4.2.2.2.2.2.2.2.2.2.2.2.2.2.2.2.2.2.1, x_4.2.2.2.2.2.2.2.2.2.2.2.2.2.2.2.2.2.2.1, x_4.2.2.2.2.2.2.2.2.2.2.2.2.2.2.2.2.2.2.2.1, x_4.2.2.2.2.2.2.2.2.2.2.2.2.2.2.2.2.2.2.2.2)
    (ix ls_4.length t5).bind fun j52 =>
    (ls_4[j52]?).bind fun x_5 =>
    let ls_5 : List Job := ls_4.set j52 (x_5.1, x_5.2.1, x_5.2.2.1, x_5.2.2.2.1, x_5.2.2.2.2.1, w64 (i1_1 + 1), x_5.2.2.2.2.2.2.1, x_5.2.2.2.2.2.2.2.1, x_5.2.2.2.2.2.2.2.2.1, x_5.2.2.2.2.2.2.2.2.2.1, x_5.2.2.2.2.2.2.2.2.2.2.1, x_5.2.2.2.2.2.2.2.2.2.2.2.1, x_5.2.2.2.2.2.2.2.2.2.2.2.2.1, x_5.2.2.2.2.2.2.2.2.2.2.2.2.2.1, x_5.2.2.2.2.2.2.2.2.2.2.2.2.2.2.1, x_5.2.2.2.2.2.2.2.2.2.2.2.2.2.2.2.1, x_5.2.2.2.2.2.2.2.2.2.2.2.2.2.2.2.2.1, x_5.2.2.2.2.2.2.2.2.2.2.2.2.2.2.2.2.2.1, x_5.2.2.2.2.2.2.2.2.2.2.2.2.2.2.2.2.2.2.1, x_5.2.2.2.2.2.2.2.2.2.2.2.2.2.2.2.2.2.2.2.1, x_5.2.2.2.2.2.2.2.2.2.2.2.2.2.2.2.2.2.2.2.2)
    let i1_2 := w64 ((w64 (i1_1 + 1)) + 1)
    (ix ls_5.length t5).bind fun j60 =>
    (ls_5[j60]?).bind fun x_6 =>
    let ls_6 : List Job := ls_5.set j60 (x_6.1, x_6.2.1, x_6.2.2.1, x_6.2.2.2.1, x_6.2.2.2.2.1, x_6.2.2.2.2.2.1, i1_2, x_6.2.2.2.2.2.2.2.1, x_6.2.2.2.2.2.2.2.2.1, x_6.2.2.2.2.2.2.2.2.2.1, x_6.2.2.2.2.2.2.2.2.2.2.1, x_6.2.2.2.2.2.2.2.2.2.2.2.1, x_6.2.2.2.2.2.2.2.2.2.2.2.2.1, x_6.2.2.2.2.2.2.2.2.2.2.2.2.2.1, x_6.2.2.2.2.2.2.2.2.2.2.2.2.2.2.1, x_6.2.2.2.2.2.2.2.2.2.2.2.2.2.2.2.1, x_6.2.2.2.2.2.2.2.2.2.2.2.2.2.2.2.2.1, x_6.2.2.2.2.2.2.2.2.2.2.2.2.2.2.2.2.2.1, x_6.2.2.2.2.2.2.2.2.2.2.2.2.2.2.2.2.2.2.1, x_6.2.2.2.2.2.2.2.2.2.2.2.2.2.2.2.2.2.2.2.1, x_6.2.2.2.2.2.2.2.2.2.2.2.2.2.2.2.2.2.2.2.2)
    (ix ls_6.length t5).bind fun j67 =>
    (ls_6[j67]?).bind fun x70 =>
    (ls_6[j67]?).bind fun x_7 =>
    (laws_markBindS x_7.2.2.2.2.2.2.2.1 (w64 (i1_2 + 1))).bind fun z_1 =>
    let ls_7 : List Job := ls_6.set j67 (x_7.1, x_7.2.1, x_7.2.2.1, x_7.2.2.2.1, x_7.2.2.2.2.1, x_7.2.2.2.2.2.1, x_7.2.2.2.2.2.2.1, z_1.1, x_7.2.2.2.2.2.2.2.2.1, x_7.2.2.2.2.2.2.2.2.2.1, x_7.2.2.2.2.2.2.2.2.2.2.1, x_7.2.2.2.2.2.2.2.2.2.2.2.1, x_7.2.2.2.2.2.2.2.2.2.2.2.2.1, x_7.2.2.2.2.2.2.2.2.2.2.2.2.2.1, x_7.2.2.2.2.2.2.2.2.2.2.2.2.2.2.1, x_7.2.2.2.2.2.2.2.2.2.2.2.2.2.2.2.1, x_7.2.2.2.2.2.2.2.2.2.2.2.2.2.2.2.2.1, x_7.2.2.2.2.2.2.2.2.2.2.2.2.2.2.2.2.2.1, x_7.2.2.2.2.2.2.2.2.2.2.2.2.2.2.2.2.2.2.1, x_7.2.2.2.2.2.2.2.2.2.2.2.2.2.2.2.2.2.2.2.1, x_7.2.2.2.2.2.2.2.2.2.2.2.2.2.2.2.2.2.2.2.2)
    (ix ls_7.length t5).bind fun j76 =>
    (ls_7[j76]?).bind fun x_8 =>
    let ls_8 : List Job := ls_7.set j76 (x_8.1, x_8.2.1, x_8.2.2.1, x_8.2.2.2.1, x_8.2.2.2.2.1, x_8.2.2.2.2.2.1, x_8.2.2.2.2.2.2.1, x_8.2.2.2.2.2.2.2.1, z_1.2, x_8.2.2.2.2.2.2.2.2.2.1, x_8.2.2.2.2.2.2.2.2.2.2.1, x_8.2.2.2.2.2.2.2.2.2.2.2.1, x_8.2.2.2.2.2.2.2.2.2.2.2.2.1, x_8.2.2.2.2.2.2.2.2.2.2.2.2.2.1, x_8.2.2.2.2.2.2.2.2.2.2.2.2.2.2.1, x_8.2.2.2.2.2.2.2.2.2.2.2.2.2.2.2.1, x_8.2.2.2.2.2.2.2.2.2.2.2.2.2.2.2.2.1, x_8.2.2.2.2.2.2.2.2.2.2.2.2.2.2.2.2.2.1, x_8.2.2.2.2.2.2.2.2.2.2.2.2.2.2.2.2.2.2.1, x_8.2.2.2.2.2.2.2.2.2.2.2.2.2.2.2.2.2.2.2.1, x_8.2.2.2.2.2.2.2.2.2.2.2.2.2.2.2.2.2.2.2.2)
    (laws_markText (w64 (z_1.2 + 1))).bind fun t84 =>
    (ix ls_8.length t5).bind fun j85 =>
    (ls_8[j85]?).bind fun x_9 =>
    let ls_9 : List Job := ls_8.set j85 (x_9.1, x_9.2.1, x_9.2.2.1, x_9.2.2.2.1, x_9.2.2.2.2.1, x_9.2.2.2.2.2.1, x_9.2.2.2.2.2.2.1, x_9.2.2.2.2.2.2.2.1, x_9.2.2.2.2.2.2.2.2.1, t84, x_9.2.2.2.2.2.2.2.2.2.2.1, x_9.2.2.2.2.2.2.2.2.2.2.2.1, x_9.2.2.2.2.2.2.2.2.2.2.2.2.1, x_9.2.2.2.2.2.2.2.2.2.2.2.2.2.1, x_9.2.2.2.2.2.2.2.2.2.2.2.2.2.2.1, x_9.2.2.2.2.2.2.2.2.2.2.2.2.2.2.2.1, x_9.2.2.2.2.2.2.2.2.2.2.2.2.2.2.2.2.1, x_9.2.2.2.2.2.2.2.2.2.2.2.2.2.2.2.2.2.1, x_9.2.2.2.2.2.2.2.2.2.2.2.2.2.2.2.2.2.2.1, x_9.2.2.2.2.2.2.2.2.2.2.2.2.2.2.2.2.2.2.2.1, x_9.2.2.2.2.2.2.2.2.2.2.2.2.2.2.2.2.2.2.2.2)
    let i1_3 := w64 ((w64 (z_1.2 + 1)) + 1)
    (ix ls_9.length t5).bind fun j92 =>
    (ls_9[j92]?).bind fun x95 =>
    (ls_9[j92]?).bind fun x_10 =>
    (laws_markPtS x_10.2.2.2.2.2.2.2.2.2.2.1 i1_3).bind fun z_2 =>
    let ls_10 : List Job := ls_9.set j92 (x_10.1, x_10.2.1, x_10.2.2.1, x_10.2.2.2.1, x_10.2.2.2.2.1, x_10.2.2.2.2.2.1, x_10.2.2.2.2.2.2.1, x_10.2.2.2.2.2.2.2.1, x_10.2.2.2.2.2.2.2.2.1, x_10.2.2.2.2.2.2.2.2.2.1, z_2.1, x_10.2.2.2.2.2.2.2.2.2.2.2.1, x_10.2.2.2.2.2.2.2.2.2.2.2.2.1, x_10.2.2.2.2.2.2.2.2.2.2.2.2.2.1, x_10.2.2.2.2.2.2.2.2.2.2.2.2.2.2.1, x_10.2.2.2.2.2.2.2.2.2.2.2.2.2.2.2.1, x_10.2.2.2.2.2.2.2.2.2.2.2.2.2.2.2.2.1, x_10.2.2.2.2.2.2.2.2.2.2.2.2.2.2.2.2.2.1, x_10.2.2.2.2.2.2.2.2.2.2.2.2.2.2.2.2.2.2.1, x_10.2.2.2.2.2.2.2.2.2.2.2.2.2.2.2.2.2.2.2.1, x_10.2.2.2.2.2.2.2.2.2.2.2.2.2.2.2.2.2.2.2.2)
    (ix ls_10.length t5).bind fun j100 =>
    (ls_10[j100]?).bind fun x103 =>
    (ls_10[j100]?).bind fun x_11 =>
    (laws_markFentS x_11.2.2.2.2.2.2.2.2.2.2.2.1 z_2.2).bind fun z_3 =>
    let ls_11 : List Job := ls_10.set j100 (x_11.1, x_11.2.1, x_11.2.2.1, x_11.2.2.2.1, x_11.2.2.2.2.1, x_11.2.2.2.2.2.1, x_11.2.2.2.2.2.2.1, x_11.2.2.2.2.2.2.2.1, x_11.2.2.2.2.2.2.2.2.1, x_11.2.2.2.2.2.2.2.2.2.1, x_11.2.2.2.2.2.2.2.2.2.2.1, z_3.1, x_11.2.2.2.2.2.2.2.2.2.2.2.2.1, x_11.2.2.2.2.2.2.2.2.2.2.2.2.2.1, x_11.2.2.2.2.2.2.2.2.2.2.2.2.2.2.1, x_11.2.2.2.2.2.2.2.2.2.2.2.2.2.2.2.1, x_11.2.2.2.2.2.2.2.2.2.2.2.2.2.2.2.2.1, x_11.2.2.2.2.2.2.2.2.2.2.2.2.2.2.2.2.2.1, x_11.2.2.2.2.2.2.2.2.2.2.2.2.2.2.2.2.2.2.1, x_11.2.2.2.2.2.2.2.2.2.2.2.2.2.2.2.2.2.2.2.1, x_11.2.2.2.2.2.2.2.2.2.2.2.2.2.2.2.2.2.2.2.2)
    (ix ls_11.length t5).bind fun j108 =>
    (ls_11[j108]?).bind fun x112 =>
    (ls_11[j108]?).bind fun x_12 =>
    (laws_markVrowS x_12.2.2.2.2.2.2.2.2.2.2.2.2.1 z_3.2).bind fun z_4 =>
    let ls_12 : List Job := ls_11.set j108 (x_12.1, x_12.2.1, x_12.2.2.1, x_12.2.2.2.1, x_12.2.2.2.2.1, x_12.2.2.2.2.2.1, x_12.2.2.2.2.2.2.1, x_12.2.2.2.2.2.2.2.1, x_12.2.2.2.2.2.2.2.2.1, x_12.2.2.2.2.2.2.2.2.2.1, x_12.2.2.2.2.2.2.2.2.2.2.1, x_12.2.2.2.2.2.2.2.2.2.2.2.1, z_4.1, x_12.2.2.2.2.2.2.2.2.2.2.2.2.2.1, x_12.2.2.2.2.2.2.2.2.2.2.2.2.2.2.1, x_12.2.2.2.2.2.2.2.2.2.2.2.2.2.2.2.1, x_12.2.2.2.2.2.2.2.2.2.2.2.2.2.2.2.2.1, x_12.2.2.2.2.2.2.2.2.2.2.2.2.2.2.2.2.2.1, x_12.2.2.2.2.2.2.2.2.2.2.2.2.2.2.2.2.2.2.1, x_12.2.2.2.2.2.2.2.2.2.2.2.2.2.2.2.2.2.2.2.1, x_12.2.2.2.2.2.2.2.2.2.2.2.2.2.2.2.2.2.2.2.2)
    (ix ls_12.length t5).bind fun j117 =>
    (ls_12[j117]?).bind fun x121 =>
    (ls_12[j117]?).bind fun x_13 =>
    (laws_markIntS x_13.2.2.2.2.2.2.2.2.2.2.2.2.2.1 z_4.2).bind fun z_5 =>
    let ls_13 : List Job := ls_12.set j117 (x_13.1, x_13.2.1, x_13.2.2.1, x_13.2.2.2.1, x_13.2.2.2.2.1, x_13.2.2.2.2.2.1, x_13.2.2.2.2.2.2.1, x_13.2.2.2.2.2.2.2.1, x_13.2.2.2.2.2.2.2.2.1, x_13.2.2.2.2.2.2.2.2.2.1, x_13.2.2.2.2.2.2.2.2.2.2.1, x_13.2.2.2.2.2.2.2.2.2.2.2.1, x_13.2.2.2.2.2.2.2.2.2.2.2.2.1, z_5.1, x_13.2.2.2.2.2.2.2.2.2.2.2.2.2.2.1, x_13.2.2.2.2.2.2.2.2.2.2.2.2.2.2.2.1, x_13.2.2.2.2.2.2.2.2.2.2.2.2.2.2.2.2.1, x_13.2.2.2.2.2.2.2.2.2.2.2.2.2.2.2.2.2.1, x_13.2.2.2.2.2.2.2.2.2.2.2.2.2.2.2.2.2.2.1, x_13.2.2.2.2.2.2.2.2.2.2.2.2.2.2.2.2.2.2.2.1, x_13.2.2.2.2.2.2.2.2.2.2.2.2.2.2.2.2.2.2.2.2)
    (ix ls_13.length t5).bind fun j127 =>
    (ls_13[j127]?).bind fun x_14 =>
    let ls_14 : List Job := ls_13.set j127 (x_14.1, x_14.2.1, x_14.2.2.1, x_14.2.2.2.1, x_14.2.2.2.2.1, x_14.2.2.2.2.2.1, x_14.2.2.2.2.2.2.1, x_14.2.2.2.2.2.2.2.1, x_14.2.2.2.2.2.2.2.2.1, x_14.2.2.2.2.2.2.2.2.2.1, x_14.2.2.2.2.2.2.2.2.2.2.1, x_14.2.2.2.2.2.2.2.2.2.2.2.1, x_14.2.2.2.2.2.2.2.2.2.2.2.2.1, x_14.2.2.2.2.2.2.2.2.2.2.2.2.2.1, z_5.2, x_14.2.2.2.2.2.2.2.2.2.2.2.2.2.2.2.1, x_14.2.2.2.2.2.2.2.2.2.2.2.2.2.2.2.2.1, x_14.2.2.2.2.2.2.2.2.2.2.2.2.2.2.2.2.2.1, x_14.2.2.2.2.2.2.2.2.2.2.2.2.2.2.2.2.2.2.1, x_14.2.2.2.2.2.2.2.2.2.2.2.2.2.2.2.2.2.2.2.1, x_14.2.2.2.2.2.2.2.2.2.2.2.2.2.2.2.2.2.2.2.2)
    (ix ls_14.length t5).bind fun j135 =>
    (ls_14[j135]?).bind fun x_15 =>
    let ls_15 : List Job := ls_14.set j135 (x_15.1, x_15.2.1, x_15.2.2.1, x_15.2.2.2.1, x_15.2.2.2.2.1, x_15.2.2.2.2.2.1, x_15.2.2.2.2.2.2.1, x_15.2.2.2.2.2.2.2.1, x_15.2.2.2.2.2.2.2.2.1, x_15.2.2.2.2.2.2.2.2.2.1, x_15.2.2.2.2.2.2.2.2.2.2.1, x_15.2.2.2.2.2.2.2.2.2.2.2.1, x_15.2.2.2.2.2.2.2.2.2.2.2.2.1, x_15.2.2.2.2.2.2.2.2.2.2.2.2.2.1, x_15.2.2.2.2.2.2.2.2.2.2.2.2.2.2.1, w64 (z_5.2 + 1), x_15.2.2.2.2.2.2.2.2.2.2.2.2.2.2.2.2.1, x_15.2.2.2.2.2.2.2.2.2.2.2.2.2.2.2.2.2.1, x_15.2.2.2.2.2.2.2.2.2.2.2.2.2.2.2.2.2.2.1, x_15.2.2.2.2.2.2.2.2.2.2.2.2.2.2.2.2.2.2.2.1, x_15.2.2.2.2.2.2.2.2.2.2.2.2.2.2.2.2.2.2.2.2)
    let i1_4 := w64 ((w64 (z_5.2 + 1)) + 1)
    (ix ls_15.length t5).bind fun j143 =>
    (ls_15[j143]?).bind fun x_16 =>
    let ls_16 : List Job := ls_15.set j143 (x_16.1, x_16.2.1, x_16.2.2.1, x_16.2.2.2.1, x_16.2.2.2.2.1, x_16.2.2.2.2.2.1, x_16.2.2.2.2.2.2.1, x_16.2.2.2.2.2.2.2.1, x_16.2.2.2.2.2.2.2.2.1, x_16.2.2.2.2.2.2.2.2.2.1, x_16.2.2.2.2.2.2.2.2.2.2.1, x_16.2.2.2.2.2.2.2.2.2.2.2.1, x_16.2.2.2.2.2.2.2.2.2.2.2.2.1, x_16.2.2.2.2.2.2.2.2.2.2.2.2.2.1, x_16.2.2.2.2.2.2.2.2.2.2.2.2.2.2.1, x_16.2.2.2.2.2.2.2.2.2.2.2.2.2.2.2.1, i1_4, x_16.2.2.2.2.2.2.2.2.2.2.2.2.2.2.2.2.2.1, x_16.2.2.2.2.2.2.2.2.2.2.2.2.2.2.2.2.2.2.1, x_16.2.2.2.2.2.2.2.2.2.2.2.2.2.2.2.2.2.2.2.1, x_16.2.2.2.2.2.2.2.2.2.2.2.2.2.2.2.2.2.2.2.2)
    (ix ls_16.length t5).bind fun j151 =>
    (ls_16[j151]?).bind fun x_17 =>
    let ls_17 : List Job := ls_16.set j151 (x_17.1, x_17.2.1, x_17.2.2.1, x_17.2.2.2.1, x_17.2.2.2.2.1, x_17.2.2.2.2.2.1, x_17.2.2.2.2.2.2.1, x_17.2.2.2.2.2.2.2.1, x_17.2.2.2.2.2.2.2.2.1, x_17.2.2.2.2.2.2.2.2.2.1, x_17.2.2.2.2.2.2.2.2.2.2.1, x_17.2.2.2.2.2.2.2.2.2.2.2.1, x_17.2.2.2.2.2.2.2.2.2.2.2.2.1, x_17.2.2.2.2.2.2.2.2.2.2.2.2.2.1, x_17.2.2.2.2.2.2.2.2.2.2.2.2.2.2.1, x_17.2.2.2.2.2.2.2.2.2.2.2.2.2.2.2.1, x_17.2.2.2.2.2.2.2.2.2.2.2.2.2.2.2.2.1, w64 (i1_4 + 1), x_17.2.2.2.2.2.2.2.2.2.2.2.2.2.2.2.2.2.2.1, x_17.2.2.2.2.2.2.2.2.2.2.2.2.2.2.2.2.2.2.2.1, x_17.2.2.2.2.2.2.2.2.2.2.2.2.2.2.2.2.2.2.2.2)
    let i1_5 := w64 ((w64 (i1_4 + 1)) + 1)
    (ix ls_17.length t5).bind fun j159 =>
    (ls_17[j159]?).bind fun x_18 =>
    let ls_18 : List Job := ls_17.set j159 (x_18.1, x_18.2.1, x_18.2.2.1, x_18.2.2.2.1, x_18.2.2.2.2.1, x_18.2.2.2.2.2.1, x_18.2.2.2.2.2.2.1, x_18.2.2.2.2.2.2.2.1, x_18.2.2.2.2.2.2.2.2.1, x_18.2.2.2.2.2.2.2.2.2.1, x_18.2.2.2.2.2.2.2.2.2.2.1, x_18.2.2.2.2.2.2.2.2.2.2.2.1, x_18.2.2.2.2.2.2.2.2.2.2.2.2.1, x_18.2.2.2.2.2.2.2.2.2.2.2.2.2.1, x_18.2.2.2.2.2.2.2.2.2.2.2.2.2.2.1, x_18.2.2.2.2.2.2.2.2.2.2.2.2.2.2.2.1, x_18.2.2.2.2.2.2.2.2.2.2.2.2.2.2.2.2.1, x_18.2.2.2.2.2.2.2.2.2.2.2.2.2.2.2.2.2.1, i1_5, x_18.2.2.2.2.2.2.2.2.2.2.2.2.2.2.2.2.2.2.2.1, x_18.2.2.2.2.2.2.2.2.2.2.2.2.2.2.2.2.2.2.2.2)
    (ix ls_18.length t5).bind fun j167 =>
    (ls_18[j167]?).bind fun x_19 =>
    let ls_19 : List Job := ls_18.set j167 (x_19.1, x_19.2.1, x_19.2.2.1, x_19.2.2.2.1, x_19.2.2.2.2.1, x_19.2.2.2.2.2.1, x_19.2.2.2.2.2.2.1, x_19.2.2.2.2.2.2.2.1, x_19.2.2.2.2.2.2.2.2.1, x_19.2.2.2.2.2.2.2.2.2.1, x_19.2.2.2.2.2.2.2.2.2.2.1, x_19.2.2.2.2.2.2.2.2.2.2.2.1, x_19.2.2.2.2.2.2.2.2.2.2.2.2.1, x_19.2.2.2.2.2.2.2.2.2.2.2.2.2.1, x_19.2.2.2.2.2.2.2.2.2.2.2.2.2.2.1, x_19.2.2.2.2.2.2.2.2.2.2.2.2.2.2.2.1, x_19.2.2.2.2.2.2.2.2.2.2.2.2.2.2.2.2.1, x_19.2.2.2.2.2.2.2.2.2.2.2.2.2.2.2.2.2.1, x_19.2.2.2.2.2.2.2.2.2.2.2.2.2.2.2.2.2.2.1, w64 (i1_5 + 1), x_19.2.2.2.2.2.2.2.2.2.2.2.2.2.2.2.2.2.2.2.2)
    let i1_6 := w64 ((w64 (i1_5 + 1)) + 1)
    (ix ls_19.length t5).bind fun j174 =>
    (ls_19[j174]?).bind fun x_20 =>
    let ls_20 : List Job := ls_19.set j174 (x_20.1, x_20.2.1, x_20.2.2.1, x_20.2.2.2.1, x_20.2.2.2.2.1, x_20.2.2.2.2.2.1, x_20.2.2.2.2.2.2.1, x_20.2.2.2.2.2.2.2.1, x_20.2.2.2.2.2.2.2.2.1, x_20.2.2.2.2.2.2.2.2.2.1, x_20.2.2.2.2.2.2.2.2.2.2.1, x_20.2.2.2.2.2.2.2.2.2.2.2.1, x_20.2.2.2.2.2.2.2.2.2.2.2.2.1, x_20.2.2.2.2.2.2.2.2.2.2.2.2.2.1, x_20.2.2.2.2.2.2.2.2.2.2.2.2.2.2.1, x_20.2.2.2.2.2.2.2.2.2.2.2.2.2.2.2.1, x_20.2.2.2.2.2.2.2.2.2.2.2.2.2.2.2.2.1, x_20.2.2.2.2.2.2.2.2.2.2.2.2.2.2.2.2.2.1, x_20.2.2.2.2.2.2.2.2.2.2.2.2.2.2.2.2.2.2.1, x_20.2.2.2.2.2.2.2.2.2.2.2.2.2.2.2.2.2.2.2.1, i1_6)
    some (.inl (w64 (i1_6 + 1), w64 (t5 + 1), ls_20)))
    (some (.inr (i1, l)))
noncomputable def laws_markJobS (a0 : List Job) (k1 : Int) : Option ((List Job) × Int) :=
  (loop (fun z => laws_markJobS_l0 z.1 z.2.1 z.2.2) (k1, 0, a0)).bind fun d =>
  some (d.2, d.1)
noncomputable def K_laws_markJobS : MFn := ⟨false, (.one (.sl cJob)), fun a k => laws_markJobS a k⟩
def a_laws_markJobS : List (Nat × LoopAnn) := [(0, ⟨⟨[(1, false, [.dat (.int .i64)]), (5, false, [.dat (.int .i64)])], [(1, .tree cJob)]⟩,
    ⟨[(1, false, [.dat (.int .i64)])], [(1, .tree cJob)]⟩, none⟩)]
theorem e_laws_markJobS : markDen ⟨tis, fns_64, marks_63, true⟩ a_laws_markJobS Tryz.f157 (codeOf Tryz.f157) false (.one (.sl cJob)) = fun a k => laws_markJobS a k := by kernel_rfl
theorem k_laws_markJobS : Marks Tryz.prog 157 K_laws_markJobS := by
  have h := marks_of (ann := a_laws_markJobS) (agg := false) (cs := (.one (.sl cJob))) gt_63 mixed Tryz.func157 (by kernel_rfl) (by kernel_rfl : Tryz.f157.body = some (codeOf Tryz.f157))
  rw [e_laws_markJobS] at h
  exact h
noncomputable def marks_157 : List (FuncId × MFn) := (157, K_laws_markJobS) :: marks_63
theorem mk_157 : ∀ f M, find marks_157 f = some M → Marks Tryz.prog f M := marks_cons mk_63 k_laws_markJobS
theorem gt_157 : Good Tryz.prog ⟨tis, fns_64, marks_157, true⟩ := g_64.trees mk_157
noncomputable def laws_markAgent (a0 : Agent) (k1 : Int) : Option (Agent × Int) :=
  (laws_markBridge (a0.1, a0.2.1, a0.2.2.1, a0.2.2.2.1, a0.2.2.2.2.1, a0.2.2.2.2.2.1, a0.2.2.2.2.2.2.1, a0.2.2.2.2.2.2.2.1, a0.2.2.2.2.2.2.2.2.1, a0.2.2.2.2.2.2.2.2.2.1, a0.2.2.2.2.2.2.2.2.2.2.1) k1).bind fun z =>
  (laws_markJobS a0.2.2.2.2.2.2.2.2.2.2.2.2.1 z.2).bind fun z_1 =>
  some ((a0.1, a0.2.1, z.1.2.2.1, z.1.2.2.2.1, z.1.2.2.2.2.1, z.1.2.2.2.2.2.1, a0.2.2.2.2.2.2.1, a0.2.2.2.2.2.2.2.1, a0.2.2.2.2.2.2.2.2.1, a0.2.2.2.2.2.2.2.2.2.1, a0.2.2.2.2.2.2.2.2.2.2.1, a0.2.2.2.2.2.2.2.2.2.2.2.1, z_1.1, a0.2.2.2.2.2.2.2.2.2.2.2.2.2.1, a0.2.2.2.2.2.2.2.2.2.2.2.2.2.2), z_1.2)
noncomputable def K_laws_markAgent : MFn := ⟨true, cAgent, fun a k => laws_markAgent a k⟩
def a_laws_markAgent : List (Nat × LoopAnn) := []
theorem e_laws_markAgent : markDen ⟨tis, fns_64, marks_157, true⟩ a_laws_markAgent Tryz.f62 (codeOf Tryz.f62) true cAgent = fun a k => laws_markAgent a k := by kernel_rfl
theorem k_laws_markAgent : Marks Tryz.prog 62 K_laws_markAgent := by
  have h := marks_of (ann := a_laws_markAgent) (agg := true) (cs := cAgent) gt_157 mixed Tryz.func62 (by kernel_rfl) (by kernel_rfl : Tryz.f62.body = some (codeOf Tryz.f62))
  rw [e_laws_markAgent] at h
  exact h
noncomputable def marks_62 : List (FuncId × MFn) := (62, K_laws_markAgent) :: marks_157
theorem mk_62 : ∀ f M, find marks_62 f = some M → Marks Tryz.prog f M := marks_cons mk_157 k_laws_markAgent
theorem gt_62 : Good Tryz.prog ⟨tis, fns_64, marks_62, true⟩ := g_64.trees mk_62
noncomputable def laws_FnExactArrive (p0 : Agent) (i1 : List Int) : Option Bool :=
  cond (decide ((i1.length : Int) > 1048576))
    (some true)
    ((laws_szAgent p0 1048576).bind fun t19 =>
    cond (decide (t19 < 0))
      (some true)
      ((laws_toAgent p0).bind fun t23 =>
      (laws_toByteS i1).bind fun t25 =>
      (spec_Arrive t23 t25).bind fun t26 =>
      (laws_toAgent p0).bind fun t28 =>
      (laws_toByteS i1).bind fun t30 =>
      (impl_Arrive t28 t30).bind fun t33 =>
      (laws_eqAgent t33 t26).bind fun t36 =>
      cond (!t36)
        (some false)
        ((laws_toAgent p0).bind fun t40 =>
        (laws_eqAgent t28 t40).bind fun t41 =>
        cond (!t41)
          (some false)
          ((laws_toByteS i1).bind fun t45 =>
          (laws_eqByteS t30 t45).bind fun t46 =>
          cond (!t46)
            (some false)
            ((laws_markAgent t28 1).bind fun z =>
            (laws_markByteS t30 z.2).bind fun z_1 =>
            (cond (decide (z_1.2 < 0))
              (some true)
              ((laws_eqAgent t33 t26).bind fun t59 =>
              some (!t59))).bind fun t61 =>
            cond t61
              (some false)
              ((laws_markAgent t33 1).bind fun z_2 =>
              (laws_heldAgent (t33.1, t33.2.1, z_2.1.2.2.1, z_2.1.2.2.2.1, z_2.1.2.2.2.2.1, z_2.1.2.2.2.2.2.1, t33.2.2.2.2.2.2.1, t33.2.2.2.2.2.2.2.1, t33.2.2.2.2.2.2.2.2.1, t33.2.2.2.2.2.2.2.2.2.1, t33.2.2.2.2.2.2.2.2.2.2.1, t33.2.2.2.2.2.2.2.2.2.2.2.1, z_2.1.2.2.2.2.2.2.2.2.2.2.2.2.1, t33.2.2.2.2.2.2.2.2.2.2.2.2.2.1, t33.2.2.2.2.2.2.2.2.2.2.2.2.2.2) 1).bind fun t67 =>
              cond (decide (t67 < 0))
                (some false)
                (cond (t67 != z_2.2)
                  (some false)
                  ((laws_toAgent p0).bind fun t74 =>
                  (laws_toByteS i1).bind fun t76 =>
                  (impl_Arrive t74 t76).bind fun t77 =>
                  (laws_eqAgent t77 t26).bind fun t80 =>
                  cond (!t80)
                    (some false)
                    ((laws_heldAgent (t33.1, t33.2.1, z_2.1.2.2.1, z_2.1.2.2.2.1, z_2.1.2.2.2.2.1, z_2.1.2.2.2.2.2.1, t33.2.2.2.2.2.2.1, t33.2.2.2.2.2.2.2.1, t33.2.2.2.2.2.2.2.2.1, t33.2.2.2.2.2.2.2.2.2.1, t33.2.2.2.2.2.2.2.2.2.2.1, t33.2.2.2.2.2.2.2.2.2.2.2.1, z_2.1.2.2.2.2.2.2.2.2.2.2.2.2.1, t33.2.2.2.2.2.2.2.2.2.2.2.2.2.1, t33.2.2.2.2.2.2.2.2.2.2.2.2.2.2) 1).bind fun t84 =>
                    cond (decide (t84 < 0)) (some false) (cond (t84 != z_2.2) (some false) (some true)))))))))))
noncomputable def F_laws_FnExactArrive : Fn := ⟨[.val true cAgent false, .val false (.one (.sl (.one (.int .u8)))) false], [.val false (.one .bool) true], fun a => laws_FnExactArrive a.1 a.2⟩
def a_laws_FnExactArrive : List (Nat × LoopAnn) := []
theorem e_laws_FnExactArrive : fnDen ⟨tis, fns_64, marks_62, true⟩ a_laws_FnExactArrive Tryz.f10 (codeOf Tryz.f10) [.val true cAgent false, .val false (.one (.sl (.one (.int .u8)))) false] [.val false (.one .bool) true] = fun a => laws_FnExactArrive a.1 a.2 := by kernel_rfl
theorem m_laws_FnExactArrive : Meets Tryz.prog 10 F_laws_FnExactArrive := by
  have h := meets_of (ann := a_laws_FnExactArrive) (ps := [.val true cAgent false, .val false (.one (.sl (.one (.int .u8)))) false]) (rs := [.val false (.one .bool) true]) gt_62 mixed Tryz.func10 (by kernel_rfl) (by kernel_rfl : Tryz.f10.body = some (codeOf Tryz.f10))
  rw [e_laws_FnExactArrive] at h
  exact h
end Go.V.W
