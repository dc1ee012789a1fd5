/- The law FnRetries: part of the proof that for every input it returns true. No condition. -/
import Derived.Test.YtdhcmckfgnommaaGreatV4
import Derived.Test.YtdhcmckfgnommaaGreatProg
import Derived.Test.YtdhcmckfgnommaaGreatChecked
import Derived.KernelRfl
namespace Go.V.W
open Go.Proofs
set_option linter.unusedVariables false
noncomputable section
def us : Nat → Nat → List (Nat × Bool × List SCell) → List (Nat × Bool × List SCell) | _, 0, l => l | a, n + 1, l => (a, false, [.undef]) :: us (a + 1) n l
@[reducible] def cNI : Cs := .one (.int .i64)
@[reducible] def cNB : Cs := .one .bool
@[reducible] def cNY : Cs := .one (.sl (.one (.int .u8)))
@[reducible] def cNN : Cs := .one (.sl (.one (.int .i64)))
@[reducible] def cNS : Cs := .one .str
@[reducible] def dI : SCell := .dat (.int .i64)
@[reducible] def dB : SCell := .dat .bool
@[reducible] def dS : SCell := .dat .str
@[reducible] def cVrow : Cs := .cons (.int .i64) (.cons (.int .i64) cNI)
@[reducible] def cVtab : Cs := .cons (.sl cVrow) cNN
@[reducible] def cVec : Cs := .cons (.int .i64) (.cons (.int .i64) (.cons (.int .i64) (.cons (.int .i64) cNI)))
@[reducible] def cPt : Cs := .cons .bool (.cons (.int .i64) (.cons .bool (.cons (.int .i64) (.cons (.int .i64) (.cons (.int .i64) (.cons (.int .i64) cNI))))))
@[reducible] def cFent : Cs := .cons (.int .i64) (.cons (.int .i64) (.cons (.int .i64) (.cons (.int .i64) cNB)))
@[reducible] def cBridge : Cs := .cons (.int .i64) (.cons .str (.cons (.sl cPt) (.cons (.sl cFent) (.cons (.sl cVrow) (.cons (.sl cNI) (.cons (.int .i64) (.cons (.int .i64) (.cons (.int .i64) (.cons (.int .i64) cNI)))))))))
@[reducible] def cVal : Cs := .cons (.int .i64) (.cons (.int .i64) (.cons .str cNN))
@[reducible] def cBind : Cs := .cons (.sl cNI) (.cons (.int .i64) (.cons (.int .i64) (.cons .str cNN)))
@[reducible] def cL1Cur : Cs := .cons (.sl (.one (.int .u8))) (.cons (.int .i64) cNI)
@[reducible] def cPdu : Cs := .cons (.int .i64) (.cons (.int .i64) (.cons (.int .i64) (.cons (.int .i64) (.one (.sl cBind)))))
@[reducible] def cJob : Cs := .cons (.int .i64) (.cons (.sl (.one (.int .u8))) (.cons (.int .i64) (.cons (.int .i64) (.cons (.int .i64) (.cons (.int .i64) (.cons (.int .i64) (.cons (.sl cBind) (.cons (.int .i64) (.cons .str (.cons (.sl cPt) (.cons (.sl cFent) (.cons (.sl cVrow) (.cons (.sl cNI) (.cons (.int .i64) (.cons (.int .i64) (.cons (.int .i64) (.cons (.int .i64) (.cons (.int .i64) (.cons (.int .i64) cNI)))))))))))))))))))
@[reducible] def cAgent : Cs := .cons (.int .i64) (.cons .str (.cons (.sl cPt) (.cons (.sl cFent) (.cons (.sl cVrow) (.cons (.sl cNI) (.cons (.int .i64) (.cons (.int .i64) (.cons (.int .i64) (.cons (.int .i64) (.cons (.int .i64) (.cons .str (.cons (.sl cJob) (.cons (.int .i64) cNI)))))))))))))
@[reducible] def cParts : Cs := .cons (.sl (.one (.int .u8))) (.cons (.int .i64) cNB)
@[reducible] def cDone : Cs := .cons (.int .i64) (.cons (.int .i64) (.cons (.int .i64) (.cons (.int .i64) (.cons (.int .i64) (.one (.sl cBind))))))
abbrev Vrow : Type := Int × Int × Int
abbrev Vtab : Type := List Vrow × List Int
abbrev Vec : Type := Int × Int × Int × Int × Int
abbrev Pt : Type := Bool × Int × Bool × Int × Int × Int × Int × Int
abbrev Fent : Type := Int × Int × Int × Int × Bool
abbrev Bridge : Type := Int × List UInt8 × List Pt × List Fent × List Vrow × List Int × Int × Int × Int × Int × Int
abbrev Val : Type := Int × Int × List UInt8 × List Int
abbrev Bind : Type := List Int × Int × Int × List UInt8 × List Int
abbrev L1Cur : Type := List Int × Int × Int
abbrev Pdu : Type := Int × Int × Int × Int × List Bind
abbrev Job : Type := Int × List Int × Int × Int × Int × Int × Int × List Bind × Int × List UInt8 × List Pt × List Fent × List Vrow × List Int × Int × Int × Int × Int × Int × Int × Int
abbrev Agent : Type := Int × List UInt8 × List Pt × List Fent × List Vrow × List Int × Int × Int × Int × Int × Int × List UInt8 × List Job × Int × Int
abbrev Parts : Type := List Int × Int × Bool
abbrev Done : Type := Int × Int × Int × Int × Int × List Bind
def tis : List (Nat × TInfo) := [(2, ⟨false, .one (.int .i64), [], 0⟩),
 (3, ⟨false, .one (.int .i64), [], 0⟩),
 (4, ⟨false, .one .bool, [], 0⟩),
 (5, ⟨false, .one (.int .u8), [], 0⟩),
 (6, ⟨false, .one (.int .u8), [], 0⟩),
 (9, ⟨false, .one .str, [], 0⟩),
 (10, ⟨false, .one .str, [], 0⟩),
 (11, ⟨false, .one .str, [], 0⟩),
 (12, ⟨false, .one (.int .u64), [], 0⟩),
 (21, ⟨false, .one (.int .i32), [], 0⟩),
 (22, ⟨false, .one (.sl (.one (.int .u8))), [], 5⟩),
 (24, ⟨false, .one (.sl cPt), [], 141⟩),
 (25, ⟨false, .one (.sl cFent), [], 143⟩),
 (26, ⟨false, .one (.sl cVrow), [], 232⟩),
 (27, ⟨false, .one (.sl cNI), [], 3⟩),
 (28, ⟨true, cVtab, [(26, 0), (27, 1)], 0⟩),
 (29, ⟨true, cVtab, [(26, 0), (27, 1)], 0⟩),
 (30, ⟨true, cBridge, [(3, 0), (9, 1), (24, 2), (25, 3), (29, 4), (3, 6), (3, 7), (3, 8), (3, 9), (3, 10)], 0⟩),
 (31, ⟨true, cBridge, [(3, 0), (9, 1), (24, 2), (25, 3), (29, 4), (3, 6), (3, 7), (3, 8), (3, 9), (3, 10)], 0⟩),
 (35, ⟨false, .one (.sl cBind), [], 43⟩),
 (36, ⟨true, cPdu, [(3, 0), (3, 1), (3, 2), (3, 3), (35, 4)], 0⟩),
 (37, ⟨true, cPdu, [(3, 0), (3, 1), (3, 2), (3, 3), (35, 4)], 0⟩),
 (40, ⟨true, cVal, [(3, 0), (3, 1), (9, 2), (27, 3)], 0⟩),
 (41, ⟨true, cVal, [(3, 0), (3, 1), (9, 2), (27, 3)], 0⟩),
 (42, ⟨true, cBind, [(27, 0), (41, 1)], 0⟩),
 (43, ⟨true, cBind, [(27, 0), (41, 1)], 0⟩),
 (65, ⟨false, .one (.sl cJob), [], 72⟩),
 (66, ⟨true, cAgent, [(31, 0), (9, 11), (65, 12), (3, 13), (3, 14)], 0⟩),
 (67, ⟨true, cAgent, [(31, 0), (9, 11), (65, 12), (3, 13), (3, 14)], 0⟩),
 (71, ⟨true, cJob, [(3, 0), (22, 1), (3, 2), (37, 3), (31, 8), (3, 19), (3, 20)], 0⟩),
 (72, ⟨true, cJob, [(3, 0), (22, 1), (3, 2), (37, 3), (31, 8), (3, 19), (3, 20)], 0⟩),
 (74, ⟨false, .one (.sl cDone), [], 78⟩),
 (77, ⟨true, cDone, [(3, 0), (37, 1)], 0⟩),
 (78, ⟨true, cDone, [(3, 0), (37, 1)], 0⟩),
 (79, ⟨false, .one (.sl cPt), [], 261⟩),
 (80, ⟨false, .one (.sl cFent), [], 263⟩),
 (81, ⟨false, .one (.sl cVrow), [], 326⟩),
 (82, ⟨true, cVtab, [(81, 0), (27, 1)], 0⟩),
 (83, ⟨true, cVtab, [(81, 0), (27, 1)], 0⟩),
 (84, ⟨true, cBridge, [(3, 0), (9, 1), (79, 2), (80, 3), (83, 4), (3, 6), (3, 7), (3, 8), (3, 9), (3, 10)], 0⟩),
 (85, ⟨true, cBridge, [(3, 0), (9, 1), (79, 2), (80, 3), (83, 4), (3, 6), (3, 7), (3, 8), (3, 9), (3, 10)], 0⟩),
 (86, ⟨false, .one (.sl cBind), [], 166⟩),
 (95, ⟨false, .one (.sl cBridge), [], 85⟩),
 (96, ⟨false, .one (.sl (.cons (.int .i64) (.cons (.int .i64) (.cons (.int .i64) cNI)))), [], 272⟩),
 (97, ⟨false, .one (.sl (.cons (.int .i64) (.cons .bool (.cons (.int .i64) (.cons (.int .i64) (.cons (.int .i64) (.cons (.int .i64) cNI))))))), [], 275⟩),
 (98, ⟨true, .cons (.sl cBridge) (.cons (.sl (.cons (.int .i64) (.cons (.int .i64) (.cons (.int .i64) cNI)))) (.one (.sl (.cons (.int .i64) (.cons .bool (.cons (.int .i64) (.cons (.int .i64) (.cons (.int .i64) (.cons (.int .i64) cNI))))))))), [(95, 0), (96, 1), (97, 2)], 0⟩),
 (99, ⟨true, .cons (.sl cBridge) (.cons (.sl (.cons (.int .i64) (.cons (.int .i64) (.cons (.int .i64) cNI)))) (.one (.sl (.cons (.int .i64) (.cons .bool (.cons (.int .i64) (.cons (.int .i64) (.cons (.int .i64) (.cons (.int .i64) cNI))))))))), [(95, 0), (96, 1), (97, 2)], 0⟩),
 (102, ⟨false, .one (.sl cBridge), [], 31⟩),
 (103, ⟨false, .one (.sl (.cons (.int .i64) (.cons (.int .i64) (.cons (.int .i64) cNI)))), [], 202⟩),
 (104, ⟨false, .one (.sl (.cons (.int .i64) (.cons .bool (.cons (.int .i64) (.cons (.int .i64) (.cons (.int .i64) (.cons (.int .i64) cNI))))))), [], 199⟩),
 (105, ⟨true, .cons (.sl cBridge) (.cons (.sl (.cons (.int .i64) (.cons (.int .i64) (.cons (.int .i64) cNI)))) (.one (.sl (.cons (.int .i64) (.cons .bool (.cons (.int .i64) (.cons (.int .i64) (.cons (.int .i64) (.cons (.int .i64) cNI))))))))), [(102, 0), (103, 1), (104, 2)], 0⟩),
 (106, ⟨true, .cons (.sl cBridge) (.cons (.sl (.cons (.int .i64) (.cons (.int .i64) (.cons (.int .i64) cNI)))) (.one (.sl (.cons (.int .i64) (.cons .bool (.cons (.int .i64) (.cons (.int .i64) (.cons (.int .i64) (.cons (.int .i64) cNI))))))))), [(102, 0), (103, 1), (104, 2)], 0⟩),
 (110, ⟨false, .one (.sl cJob), [], 282⟩),
 (111, ⟨true, cAgent, [(85, 0), (9, 11), (110, 12), (3, 13), (3, 14)], 0⟩),
 (112, ⟨true, cAgent, [(85, 0), (9, 11), (110, 12), (3, 13), (3, 14)], 0⟩),
 (138, ⟨true, cVec, [(3, 0), (3, 1), (3, 2), (3, 3), (3, 4)], 0⟩),
 (139, ⟨true, cVec, [(3, 0), (3, 1), (3, 2), (3, 3), (3, 4)], 0⟩),
 (140, ⟨true, cPt, [(4, 0), (3, 1), (4, 2), (139, 3)], 0⟩),
 (141, ⟨true, cPt, [(4, 0), (3, 1), (4, 2), (139, 3)], 0⟩),
 (142, ⟨true, cFent, [(3, 0), (3, 1), (3, 2), (3, 3), (4, 4)], 0⟩),
 (143, ⟨true, cFent, [(3, 0), (3, 1), (3, 2), (3, 3), (4, 4)], 0⟩),
 (164, ⟨true, cVal, [(3, 0), (3, 1), (9, 2), (27, 3)], 0⟩),
 (165, ⟨true, cBind, [(27, 0), (164, 1)], 0⟩),
 (166, ⟨true, cBind, [(27, 0), (164, 1)], 0⟩),
 (198, ⟨true, .cons (.int .i64) (.cons .bool (.cons (.int .i64) (.cons (.int .i64) (.cons (.int .i64) (.cons (.int .i64) cNI))))), [(3, 0), (4, 1), (139, 2)], 0⟩),
 (199, ⟨true, .cons (.int .i64) (.cons .bool (.cons (.int .i64) (.cons (.int .i64) (.cons (.int .i64) (.cons (.int .i64) cNI))))), [(3, 0), (4, 1), (139, 2)], 0⟩),
 (201, ⟨true, .cons (.int .i64) (.cons (.int .i64) (.cons (.int .i64) cNI)), [(3, 0), (3, 1), (3, 2), (3, 3)], 0⟩),
 (202, ⟨true, .cons (.int .i64) (.cons (.int .i64) (.cons (.int .i64) cNI)), [(3, 0), (3, 1), (3, 2), (3, 3)], 0⟩),
 (210, ⟨true, cL1Cur, [(22, 0), (3, 1), (3, 2)], 0⟩),
 (211, ⟨true, cL1Cur, [(22, 0), (3, 1), (3, 2)], 0⟩),
 (214, ⟨false, .one (.sl cNS), [], 9⟩),
 (226, ⟨false, .one (.sl cNN), [], 27⟩),
 (231, ⟨true, cVrow, [(3, 0), (3, 1), (3, 2)], 0⟩),
 (232, ⟨true, cVrow, [(3, 0), (3, 1), (3, 2)], 0⟩),
 (242, ⟨false, .one (.int .u64), [], 0⟩),
 (259, ⟨true, cVec, [(3, 0), (3, 1), (3, 2), (3, 3), (3, 4)], 0⟩),
 (260, ⟨true, cPt, [(4, 0), (3, 1), (4, 2), (259, 3)], 0⟩),
 (261, ⟨true, cPt, [(4, 0), (3, 1), (4, 2), (259, 3)], 0⟩),
 (263, ⟨true, cFent, [(3, 0), (3, 1), (3, 2), (3, 3), (4, 4)], 0⟩),
 (272, ⟨true, .cons (.int .i64) (.cons (.int .i64) (.cons (.int .i64) cNI)), [(3, 0), (3, 1), (3, 2), (3, 3)], 0⟩),
 (274, ⟨true, .cons (.int .i64) (.cons .bool (.cons (.int .i64) (.cons (.int .i64) (.cons (.int .i64) (.cons (.int .i64) cNI))))), [(3, 0), (4, 1), (259, 2)], 0⟩),
 (275, ⟨true, .cons (.int .i64) (.cons .bool (.cons (.int .i64) (.cons (.int .i64) (.cons (.int .i64) (.cons (.int .i64) cNI))))), [(3, 0), (4, 1), (259, 2)], 0⟩),
 (279, ⟨true, cPdu, [(3, 0), (3, 1), (3, 2), (3, 3), (86, 4)], 0⟩),
 (280, ⟨true, cPdu, [(3, 0), (3, 1), (3, 2), (3, 3), (86, 4)], 0⟩),
 (281, ⟨true, cJob, [(3, 0), (22, 1), (3, 2), (280, 3), (85, 8), (3, 19), (3, 20)], 0⟩),
 (282, ⟨true, cJob, [(3, 0), (22, 1), (3, 2), (280, 3), (85, 8), (3, 19), (3, 20)], 0⟩),
 (287, ⟨true, cParts, [(22, 0), (3, 1), (4, 2)], 0⟩),
 (288, ⟨true, cParts, [(22, 0), (3, 1), (4, 2)], 0⟩),
 (299, ⟨false, .one (.sl cNB), [], 4⟩),
 (326, ⟨true, cVrow, [(3, 0), (3, 1), (3, 2)], 0⟩),
 (337, ⟨true, cParts, [(22, 0), (3, 1), (4, 2)], 0⟩),
 (338, ⟨true, cParts, [(22, 0), (3, 1), (4, 2)], 0⟩),
 (345, ⟨true, .cons (.int .i64) cNI, [(3, 0), (3, 1)], 0⟩),
 (346, ⟨true, .cons (.int .i64) cNI, [(3, 0), (3, 1)], 0⟩),
 (364, ⟨false, .one (.int .i8), [], 0⟩),
 (374, ⟨false, .one (.int .u32), [], 0⟩),
 (375, ⟨false, .one (.int .u8), [], 0⟩),
 (376, ⟨false, .one (.int .u8), [], 0⟩),
 (379, ⟨false, .one (.int .i32), [], 0⟩),
 (380, ⟨false, .one (.int .i32), [], 0⟩)]
theorem tisT : Tis Tryz.prog tis := Tis.of_all (by kernel_rfl)
theorem tisE : Eqs Tryz.prog tis := Eqs.of_all (by kernel_rfl)
theorem tisD : Deep Tryz.prog tis := Deep.of_all (by kernel_rfl)
theorem mixed : Tryz.prog.follows .mixedOrders = true := by kernel_rfl
def codeOf (fn : Func) : Code := match fn.body with | some c => c | none => .skip
theorem g_0 : Good Tryz.prog ⟨tis, [], [], false⟩ := ⟨tisT, tisE, (fun f F h => by cases h), (fun f M h => by cases h), (fun h => by cases h)⟩
theorem mkM {l : List (FuncId × Fn)} (g : Good Tryz.prog ⟨tis, l, [], false⟩) (n : FuncId) (f : Func) (ann : List (Nat × LoopAnn)) (F : Fn) (h1 : Tryz.prog.funcs[n]? = some f) (h2 : (f.name == "runtime.NumGoroutine") = false) (h3 : f.body = some (codeOf f)) (h4 : fnDen ⟨tis, l, [], false⟩ ann f (codeOf f) F.ps F.rs = F.den) : Meets Tryz.prog n F := by
 have h := meets_of (ann := ann) (ps := F.ps) (rs := F.rs) g mixed h1 h2 h3
 rw [h4] at h
 exact h
def laws_big (code0 : List Int) : Option Bool :=
 let t2 := decide ((code0.length : Int) > 1048576)
 some t2
def F_laws_big : Fn := ⟨[.val false cNY false], [.val false cNB true], fun a => laws_big a⟩
theorem m_laws_big : Meets Tryz.prog 13 F_laws_big := mkM g_0 13 Tryz.f13 [] F_laws_big Tryz.func13 (by kernel_rfl) (by kernel_rfl) (by kernel_rfl)
def fns_13 : List (FuncId × Fn) := (13, F_laws_big) :: []
theorem g_13 : Good Tryz.prog ⟨tis, fns_13, [], false⟩ := g_0.cons m_laws_big
def laws_at (code0 : List Int) (i1 : Int) : Option Int :=
 cond (decide (i1 < (code0.length : Int)))
 ((at? code0 i1).bind fun x11 =>
 some (w64 (x11)))
 (let t4 := (w64 ((w64 (i1 * 31)) + (w64 ((code0.length : Int) * 7)))).tmod 256
 some t4)
def F_laws_at : Fn := ⟨[.val false cNY false, .val false cNI false], [.val false cNI true], fun a => laws_at a.1 a.2⟩
theorem m_laws_at : Meets Tryz.prog 15 F_laws_at := mkM g_13 15 Tryz.f15 [] F_laws_at Tryz.func15 (by kernel_rfl) (by kernel_rfl) (by kernel_rfl)
def fns_15 : List (FuncId × Fn) := (15, F_laws_at) :: fns_13
theorem g_15 : Good Tryz.prog ⟨tis, fns_15, [], false⟩ := g_13.cons m_laws_at
def impl_SameOid_l0 (a0 : List Int) (b1 : List Int) (t13 : Int) : Option (Int ⊕ (Unit ⊕ Bool)) :=
 cond (decide (t13 < (a0.length : Int)))
 ((at? a0 t13).bind fun x18 =>
 (at? b1 t13).bind fun x22 =>
 cond (x18 != x22) (some (.inr (.inr false))) (some (.inl (w64 (t13 + 1)))))
 (some (.inr (.inl ())))
def impl_SameOid (a0 : List Int) (b1 : List Int) : Option Bool :=
 cond ((a0.length : Int) != (b1.length : Int))
 (some false)
 ((loop (fun z => impl_SameOid_l0 a0 b1 z) 0).bind (Sum.elim (fun d =>
 some true) (fun r => some r)))
def F_impl_SameOid : Fn := ⟨[.val false cNN false, .val false cNN false], [.val false cNB true], fun a => impl_SameOid a.1 a.2⟩
def a_impl_SameOid : List (Nat × LoopAnn) := [(0, ⟨⟨[(13, false, [dI])], []⟩,
 ⟨[], []⟩, some ⟨[(4, false, [dB])], []⟩⟩)]
theorem m_impl_SameOid : Meets Tryz.prog 18 F_impl_SameOid := mkM g_15 18 Tryz.f18 a_impl_SameOid F_impl_SameOid Tryz.func18 (by kernel_rfl) (by kernel_rfl) (by kernel_rfl)
def fns_18 : List (FuncId × Fn) := (18, F_impl_SameOid) :: fns_15
theorem g_18 : Good Tryz.prog ⟨tis, fns_18, [], false⟩ := g_15.cons m_impl_SameOid
def impl_in (n0 : Int) (low1 : Int) (high2 : Int) : Option Bool :=
 (cond (decide (n0 ≥ low1)) (some (decide (n0 ≤ high2))) (some false)).bind fun t14 =>
 some t14
def F_impl_in : Fn := ⟨[.val false cNI false, .val false cNI false, .val false cNI false], [.val false cNB true], fun a => impl_in a.1 a.2.1 a.2.2⟩
theorem m_impl_in : Meets Tryz.prog 85 F_impl_in := mkM g_18 85 Tryz.f85 [] F_impl_in Tryz.func85 (by kernel_rfl) (by kernel_rfl) (by kernel_rfl)
def fns_85 : List (FuncId × Fn) := (85, F_impl_in) :: fns_18
theorem g_85 : Good Tryz.prog ⟨tis, fns_85, [], false⟩ := g_18.cons m_impl_in
def impl_allPorts (ports0 : Int) : Option Int :=
 (shl .i64 1 ports0).bind fun t4 =>
 some (w64 (t4 - 1))
def F_impl_allPorts : Fn := ⟨[.val false cNI false], [.val false cNI true], fun a => impl_allPorts a⟩
theorem m_impl_allPorts : Meets Tryz.prog 206 F_impl_allPorts := mkM g_85 206 Tryz.f206 [] F_impl_allPorts Tryz.func206 (by kernel_rfl) (by kernel_rfl) (by kernel_rfl)
def fns_206 : List (FuncId × Fn) := (206, F_impl_allPorts) :: fns_85
theorem g_206 : Good Tryz.prog ⟨tis, fns_206, [], false⟩ := g_85.cons m_impl_allPorts
def impl_RowAt_l0 (v0 : Vtab) (id1 : Int) (t10 : Int) : Option (Int ⊕ (Unit ⊕ Int)) :=
 cond (decide (t10 < (v0.1.length : Int)))
 ((at? v0.1 t10).bind fun x13 =>
 cond (x13.1 == id1) (some (.inr (.inr t10))) (some (.inl (w64 (t10 + 1)))))
 (some (.inr (.inl ())))
def impl_RowAt (v0 : Vtab) (id1 : Int) : Option Int :=
 (loop (fun z => impl_RowAt_l0 v0 id1 z) 0).bind (Sum.elim (fun d =>
 some (-1)) (fun r => some r))
def F_impl_RowAt : Fn := ⟨[.val true cVtab false, .val false cNI false], [.val false cNI true], fun a => impl_RowAt a.1 a.2⟩
def a_impl_RowAt : List (Nat × LoopAnn) := [(0, ⟨⟨[(10, false, [dI])], []⟩,
 ⟨[], []⟩, some ⟨[(4, false, [dI])], []⟩⟩)]
theorem m_impl_RowAt : Meets Tryz.prog 207 F_impl_RowAt := mkM g_206 207 Tryz.f207 a_impl_RowAt F_impl_RowAt Tryz.func207 (by kernel_rfl) (by kernel_rfl) (by kernel_rfl)
def fns_207 : List (FuncId × Fn) := (207, F_impl_RowAt) :: fns_206
theorem g_207 : Good Tryz.prog ⟨tis, fns_207, [], false⟩ := g_206.cons m_impl_RowAt
def impl_VtabOk_l0 (p0 : Vtab) (i1 : Int) (t28 : Int) : Option (Int ⊕ (Unit ⊕ Bool)) :=
 cond (decide (t28 < (p0.1.length : Int)))
 ((at? p0.1 t28).bind fun x31 =>
 (impl_in x31.1 1 99).bind fun t35 =>
 (cond (!t35)
 (some true)
 ((cond (decide (t28 > 0))
 ((at? p0.1 (w64 (t28 - 1))).bind fun x45 =>
 some (decide (x45.1 ≥ x31.1)))
 (some false)).bind fun t51 =>
 some t51)).bind fun t52 =>
 (cond t52
 (some true)
 ((impl_allPorts i1).bind fun t57 =>
 (impl_in x31.2.1 0 t57).bind fun t58 =>
 some (!t58))).bind fun t60 =>
 (cond t60 (some true) (some ((bclr .i64 x31.2.2 x31.2.1) != 0))).bind fun t68 =>
 cond t68 (some (.inr (.inr false))) (some (.inl (w64 (t28 + 1)))))
 (some (.inr (.inl ())))
def impl_VtabOk_l2 (p0 : Vtab) (t73 : Int) : Option (Int ⊕ (Unit ⊕ Bool)) :=
 cond (decide (t73 < (p0.2.length : Int)))
 ((at? p0.2 t73).bind fun x75 =>
 (impl_RowAt p0 x75).bind fun t79 =>
 cond (decide (t79 < 0)) (some (.inr (.inr false))) (some (.inl (w64 (t73 + 1)))))
 (some (.inr (.inl ())))
def impl_VtabOk (p0 : Vtab) (i1 : Int) : Option Bool :=
 (impl_in i1 1 6).bind fun t10 =>
 (cond (!t10) (some true) (some ((p0.2.length : Int) != i1))).bind fun t18 =>
 (cond t18 (some true) (some (decide ((p0.1.length : Int) > 6)))).bind fun t24 =>
 cond t24
 (some false)
 ((loop (fun z => impl_VtabOk_l0 p0 i1 z) 0).bind (Sum.elim (fun d =>
 (loop (fun z => impl_VtabOk_l2 p0 z) 0).bind (Sum.elim (fun d_1 =>
 some true) (fun r => some r))) (fun r_1 => some r_1)))
def F_impl_VtabOk : Fn := ⟨[.val true cVtab false, .val false cNI false], [.val false cNB true], fun a => impl_VtabOk a.1 a.2⟩
def a_impl_VtabOk : List (Nat × LoopAnn) := [(0, ⟨⟨(28, false, [dI]) :: us 38 14 (us 54 6 (us 62 6 [])), []⟩,
 ⟨[], []⟩, some ⟨[(4, false, [dB])], []⟩⟩),
 (2, ⟨⟨[(73, false, [dI])], []⟩,
 ⟨[], []⟩, some ⟨[(4, false, [dB])], []⟩⟩)]
theorem m_impl_VtabOk : Meets Tryz.prog 91 F_impl_VtabOk := mkM g_207 91 Tryz.f91 a_impl_VtabOk F_impl_VtabOk Tryz.func91 (by kernel_rfl) (by kernel_rfl) (by kernel_rfl)
def fns_91 : List (FuncId × Fn) := (91, F_impl_VtabOk) :: fns_207
theorem g_91 : Good Tryz.prog ⟨tis, fns_91, [], false⟩ := g_207.cons m_impl_VtabOk
def impl_VecOk (v0 : Vec) : Option Bool :=
 (impl_in v0.1 1 99).bind fun t5 =>
 (cond t5
 ((impl_in v0.2.1 0 100000).bind fun t9 =>
 some t9)
 (some false)).bind fun t10 =>
 (cond t10
 ((impl_in v0.2.2.1 0 10).bind fun t14 =>
 some t14)
 (some false)).bind fun t15 =>
 (cond t15
 ((impl_in v0.2.2.2.1 1 99).bind fun t19 =>
 some t19)
 (some false)).bind fun t20 =>
 (cond t20
 ((impl_in v0.2.2.2.2 0 7).bind fun t24 =>
 some t24)
 (some false)).bind fun t25 =>
 some t25
def F_impl_VecOk : Fn := ⟨[.val true cVec false], [.val false cNB true], fun a => impl_VecOk a⟩
theorem m_impl_VecOk : Meets Tryz.prog 163 F_impl_VecOk := mkM g_91 163 Tryz.f163 [] F_impl_VecOk Tryz.func163 (by kernel_rfl) (by kernel_rfl) (by kernel_rfl)
def fns_163 : List (FuncId × Fn) := (163, F_impl_VecOk) :: fns_91
theorem g_163 : Good Tryz.prog ⟨tis, fns_163, [], false⟩ := g_91.cons m_impl_VecOk
def impl_PtOk (p0 : Pt) : Option Bool :=
 (impl_in p0.2.1 1 1000).bind fun t5 =>
 (cond (!t5)
 (some true)
 ((cond p0.2.2.1 (some (!p0.1)) (some false)).bind fun t14 =>
 some t14)).bind fun t15 =>
 cond t15
 (some false)
 (cond p0.2.2.1
 ((impl_VecOk p0.2.2.2).bind fun t20 =>
 some t20)
 (let t2 := p0.2.2.2.1 == 0 && (p0.2.2.2.2.1 == 0 && (p0.2.2.2.2.2.1 == 0 && (p0.2.2.2.2.2.2.1 == 0 && (p0.2.2.2.2.2.2.2 == 0))))
 some t2))
def F_impl_PtOk : Fn := ⟨[.val true cPt false], [.val false cNB true], fun a => impl_PtOk a⟩
theorem m_impl_PtOk : Meets Tryz.prog 100 F_impl_PtOk := mkM g_163 100 Tryz.f100 [] F_impl_PtOk Tryz.func100 (by kernel_rfl) (by kernel_rfl) (by kernel_rfl)
def fns_100 : List (FuncId × Fn) := (100, F_impl_PtOk) :: fns_163
theorem g_100 : Good Tryz.prog ⟨tis, fns_100, [], false⟩ := g_163.cons m_impl_PtOk
def impl_fentOk (e0 : Fent) : Option Bool :=
 (impl_in e0.1 1 99).bind fun t5 =>
 (cond t5
 ((impl_in e0.2.1 1 9999).bind fun t9 =>
 some t9)
 (some false)).bind fun t10 =>
 (cond t10
 ((impl_in e0.2.2.1 0 7).bind fun t14 =>
 some t14)
 (some false)).bind fun t15 =>
 (cond t15
 ((impl_in e0.2.2.2.1 0 4).bind fun t19 =>
 some t19)
 (some false)).bind fun t20 =>
 (cond t20
 ((cond (!e0.2.2.2.2) (some true) (some (e0.2.2.2.1 == 0))).bind fun t29 =>
 some t29)
 (some false)).bind fun t30 =>
 some t30
def F_impl_fentOk : Fn := ⟨[.val true cFent false], [.val false cNB true], fun a => impl_fentOk a⟩
theorem m_impl_fentOk : Meets Tryz.prog 224 F_impl_fentOk := mkM g_100 224 Tryz.f224 [] F_impl_fentOk Tryz.func224 (by kernel_rfl) (by kernel_rfl) (by kernel_rfl)
def fns_224 : List (FuncId × Fn) := (224, F_impl_fentOk) :: fns_100
theorem g_224 : Good Tryz.prog ⟨tis, fns_224, [], false⟩ := g_100.cons m_impl_fentOk
def impl_behind (e0 : Fent) (tag1 : Int) (mac2 : Int) : Option Bool :=
 (cond (decide (e0.1 > tag1))
 (some true)
 ((cond (e0.1 == tag1) (some (decide (e0.2.1 > mac2))) (some false)).bind fun t21 =>
 some t21)).bind fun t22 =>
 some t22
def F_impl_behind : Fn := ⟨[.val true cFent false, .val false cNI false, .val false cNI false], [.val false cNB true], fun a => impl_behind a.1 a.2.1 a.2.2⟩
theorem m_impl_behind : Meets Tryz.prog 225 F_impl_behind := mkM g_224 225 Tryz.f225 [] F_impl_behind Tryz.func225 (by kernel_rfl) (by kernel_rfl) (by kernel_rfl)
def fns_225 : List (FuncId × Fn) := (225, F_impl_behind) :: fns_224
theorem g_225 : Good Tryz.prog ⟨tis, fns_225, [], false⟩ := g_224.cons m_impl_behind
def impl_FdbOk_l0 (l0 : List Fent) (t7 : Int) : Option (Int ⊕ (Unit ⊕ Bool)) :=
 cond (decide (t7 < (l0.length : Int)))
 ((at? l0 t7).bind fun x10 =>
 (impl_fentOk x10).bind fun t13 =>
 (cond (!t13)
 (some true)
 ((cond (decide (t7 > 0))
 ((at? l0 (w64 (t7 - 1))).bind fun x23 =>
 (at? l0 (w64 (t7 - 1))).bind fun x29 =>
 (impl_behind x10 x23.1 x29.2.1).bind fun t32 =>
 some (!t32))
 (some false)).bind fun t34 =>
 some t34)).bind fun t35 =>
 cond t35 (some (.inr (.inr false))) (some (.inl (w64 (t7 + 1)))))
 (some (.inr (.inl ())))
def impl_FdbOk (l0 : List Fent) : Option Bool :=
 (loop (fun z => impl_FdbOk_l0 l0 z) 0).bind (Sum.elim (fun d =>
 let t2 := decide ((l0.length : Int) ≤ 12)
 some t2) (fun r => some r))
def F_impl_FdbOk : Fn := ⟨[.val false (.one (.sl cFent)) false], [.val false cNB true], fun a => impl_FdbOk a⟩
def a_impl_FdbOk : List (Nat × LoopAnn) := [(0, ⟨⟨(7, false, [dI]) :: us 16 19 [], []⟩,
 ⟨[], []⟩, some ⟨[(2, false, [dB])], []⟩⟩)]
theorem m_impl_FdbOk : Meets Tryz.prog 101 F_impl_FdbOk := mkM g_225 101 Tryz.f101 a_impl_FdbOk F_impl_FdbOk Tryz.func101 (by kernel_rfl) (by kernel_rfl) (by kernel_rfl)
def fns_101 : List (FuncId × Fn) := (101, F_impl_FdbOk) :: fns_225
theorem g_101 : Good Tryz.prog ⟨tis, fns_101, [], false⟩ := g_225.cons m_impl_FdbOk
def impl_isCount (n0 : Int) : Option Bool :=
 (impl_in n0 0 1000000).bind fun t4 =>
 some t4
def F_impl_isCount : Fn := ⟨[.val false cNI false], [.val false cNB true], fun a => impl_isCount a⟩
theorem m_impl_isCount : Meets Tryz.prog 102 F_impl_isCount := mkM g_101 102 Tryz.f102 [] F_impl_isCount Tryz.func102 (by kernel_rfl) (by kernel_rfl) (by kernel_rfl)
def fns_102 : List (FuncId × Fn) := (102, F_impl_isCount) :: fns_101
theorem g_102 : Good Tryz.prog ⟨tis, fns_102, [], false⟩ := g_101.cons m_impl_isCount
def impl_BridgeOk_l0 (p0 : Bridge) (t8 : Int) : Option (Int ⊕ (Unit ⊕ Bool)) :=
 cond (decide (t8 < (p0.2.2.1.length : Int)))
 ((at? p0.2.2.1 t8).bind fun x10 =>
 (impl_PtOk x10).bind fun t13 =>
 cond (!t13) (some (.inr (.inr false))) (some (.inl (w64 (t8 + 1)))))
 (some (.inr (.inl ())))
def impl_BridgeOk (p0 : Bridge) : Option Bool :=
 (loop (fun z => impl_BridgeOk_l0 p0 z) 0).bind (Sum.elim (fun d =>
 (impl_in p0.1 1 99).bind fun t18 =>
 (cond (!t18) (some true) (some (decide ((p0.2.1.length : Int) > 10)))).bind fun t25 =>
 (cond t25
 (some true)
 ((impl_in (p0.2.2.1.length : Int) 1 6).bind fun t30 =>
 some (!t30))).bind fun t32 =>
 (cond t32
 (some true)
 ((impl_FdbOk p0.2.2.2.1).bind fun t36 =>
 some (!t36))).bind fun t38 =>
 (cond t38
 (some true)
 ((impl_VtabOk (p0.2.2.2.2.1, p0.2.2.2.2.2.1) (p0.2.2.1.length : Int)).bind fun t45 =>
 some (!t45))).bind fun t47 =>
 cond t47
 (some false)
 ((impl_isCount p0.2.2.2.2.2.2.1).bind fun t50 =>
 (cond t50
 ((impl_isCount p0.2.2.2.2.2.2.2.1).bind fun t54 =>
 some t54)
 (some false)).bind fun t55 =>
 (cond t55
 ((impl_isCount p0.2.2.2.2.2.2.2.2.1).bind fun t59 =>
 some t59)
 (some false)).bind fun t60 =>
 (cond t60
 ((impl_isCount p0.2.2.2.2.2.2.2.2.2.1).bind fun t64 =>
 some t64)
 (some false)).bind fun t65 =>
 (cond t65
 ((impl_isCount p0.2.2.2.2.2.2.2.2.2.2).bind fun t69 =>
 some t69)
 (some false)).bind fun t70 =>
 some t70)) (fun r => some r))
def F_impl_BridgeOk : Fn := ⟨[.val true cBridge false], [.val false cNB true], fun a => impl_BridgeOk a⟩
def a_impl_BridgeOk : List (Nat × LoopAnn) := [(0, ⟨⟨[(8, false, [dI])], []⟩,
 ⟨[], []⟩, some ⟨[(2, false, [dB])], []⟩⟩)]
theorem m_impl_BridgeOk : Meets Tryz.prog 27 F_impl_BridgeOk := mkM g_102 27 Tryz.f27 a_impl_BridgeOk F_impl_BridgeOk Tryz.func27 (by kernel_rfl) (by kernel_rfl) (by kernel_rfl)
def fns_27 : List (FuncId × Fn) := (27, F_impl_BridgeOk) :: fns_102
theorem g_27 : Good Tryz.prog ⟨tis, fns_27, [], false⟩ := g_102.cons m_impl_BridgeOk
def impl_thing (v0 : Val) (name1 : List Int) : Option Bind :=
 (app ([1, 3, 1] : List Int) name1).bind fun zs7 =>
 some (zs7, v0.1, v0.2.1, v0.2.2.1, v0.2.2.2)
def F_impl_thing : Fn := ⟨[.val true cVal false, .val false cNN false], [.val true cBind false], fun a => impl_thing a.1 a.2⟩
theorem m_impl_thing : Meets Tryz.prog 198 F_impl_thing := mkM g_27 198 Tryz.f198 [] F_impl_thing Tryz.func198 (by kernel_rfl) (by kernel_rfl) (by kernel_rfl)
def fns_198 : List (FuncId × Fn) := (198, F_impl_thing) :: fns_27
theorem g_198 : Good Tryz.prog ⟨tis, fns_198, [], false⟩ := g_27.cons m_impl_thing
def impl_number (n0 : Int) : Option Val :=
 some (2, n0, [], [])
def F_impl_number : Fn := ⟨[.val false cNI false], [.val true cVal true], fun a => impl_number a⟩
theorem m_impl_number : Meets Tryz.prog 199 F_impl_number := mkM g_198 199 Tryz.f199 [] F_impl_number Tryz.func199 (by kernel_rfl) (by kernel_rfl) (by kernel_rfl)
def fns_199 : List (FuncId × Fn) := (199, F_impl_number) :: fns_198
theorem g_199 : Good Tryz.prog ⟨tis, fns_199, [], false⟩ := g_198.cons m_impl_number
def impl_LessVec (a0 : Vec) (b1 : Vec) : Option Bool :=
 cond (a0.1 != b1.1)
 (some (decide (a0.1 < b1.1)))
 (cond (a0.2.1 != b1.2.1)
 (some (decide (a0.2.1 < b1.2.1)))
 (cond (a0.2.2.2.1 != b1.2.2.2.1)
 (let t4 := decide (a0.2.2.2.1 < b1.2.2.2.1)
 some t4)
 (let t4_1 := decide (a0.2.2.2.2 < b1.2.2.2.2)
 some t4_1)))
def F_impl_LessVec : Fn := ⟨[.val true cVec false, .val true cVec false], [.val false cNB true], fun a => impl_LessVec a.1 a.2⟩
theorem m_impl_LessVec : Meets Tryz.prog 284 F_impl_LessVec := mkM g_199 284 Tryz.f284 [] F_impl_LessVec Tryz.func284 (by kernel_rfl) (by kernel_rfl) (by kernel_rfl)
def fns_284 : List (FuncId × Fn) := (284, F_impl_LessVec) :: fns_199
theorem g_284 : Good Tryz.prog ⟨tis, fns_284, [], false⟩ := g_199.cons m_impl_LessVec
def impl_StepVec (v0 : Vec) (cost1 : Int) : Option (Vec × Bool) :=
 (impl_VecOk v0).bind fun t8 =>
 (cond (!t8)
 (some true)
 ((impl_in cost1 1 1000).bind fun t12 =>
 some (!t12))).bind fun t14 =>
 cond t14
 (some (v0, false))
 ((impl_VecOk (v0.1, w64 (v0.2.1 + cost1), w64 (v0.2.2.1 + 1), v0.2.2.2.1, v0.2.2.2.2)).bind fun t27 =>
 cond (!t27)
 (some (v0, false))
 (some ((v0.1, w64 (v0.2.1 + cost1), w64 (v0.2.2.1 + 1), v0.2.2.2.1, v0.2.2.2.2), true)))
def F_impl_StepVec : Fn := ⟨[.val true cVec false, .val false cNI false], [.val true cVec true, .val false cNB true], fun a => impl_StepVec a.1 a.2⟩
theorem m_impl_StepVec : Meets Tryz.prog 347 F_impl_StepVec := mkM g_284 347 Tryz.f347 [] F_impl_StepVec Tryz.func347 (by kernel_rfl) (by kernel_rfl) (by kernel_rfl)
def fns_347 : List (FuncId × Fn) := (347, F_impl_StepVec) :: fns_284
theorem g_347 : Good Tryz.prog ⟨tis, fns_347, [], false⟩ := g_284.cons m_impl_StepVec
def impl_BestVec_l0 (p0 : Int) (i1 : List Pt) (t7 : Int) (t18 : Int) (b0 : Int) (b1 : Int) (b2 : Int) (b3 : Int) (b4 : Int) (b0_1 : Int) (b1_1 : Int) (b2_1 : Int) (b3_1 : Int) (b4_1 : Int) : Option ((Int × Int × Int × Int × Int × Int × Int × Int × Int × Int × Int × Int) ⊕ (Int × Int × Int × Int × Int × Int × Int × Int × Int × Int × Int)) :=
 cond (decide (t18 < (i1.length : Int)))
 ((at? i1 t18).bind fun x21 =>
 (cond (!x21.1) (some true) (some (!x21.2.2.1))).bind fun t30 =>
 cond t30
 (some (.inl (t7, w64 (t18 + 1), b0, b1, b2, b3, b4, b0_1, b1_1, b2_1, b3_1, b4_1)))
 ((impl_StepVec x21.2.2.2 x21.2.1).bind fun t36 =>
 (cond t36.2 (some (decide (t36.1.1 < p0))) (some false)).bind fun t45 =>
 (cond t45
 ((cond (decide (t7 < 0))
 (some true)
 ((impl_LessVec t36.1 (b0_1, b1_1, b2_1, b3_1, b4_1)).bind fun t52 =>
 some t52)).bind fun t53 =>
 some t53)
 (some false)).bind fun t54 =>
 cond t54
 (some (.inl (t18, w64 (t18 + 1), t36.1.1, t36.1.2.1, t36.1.2.2.1, p0, 0, t36.1.1, t36.1.2.1, t36.1.2.2.1, t36.1.2.2.2.1, t36.1.2.2.2.2)))
 (some (.inl (t7, w64 (t18 + 1), b0, b1, b2, b3, b4, b0_1, b1_1, b2_1, b3_1, b4_1)))))
 (some (.inr (t7, b0, b1, b2, b3, b4, b0_1, b1_1, b2_1, b3_1, b4_1)))
def impl_BestVec (p0 : Int) (i1 : List Pt) : Option (Vec × Int) :=
 (loop (fun z => impl_BestVec_l0 p0 i1 z.1 z.2.1 z.2.2.1 z.2.2.2.1 z.2.2.2.2.1 z.2.2.2.2.2.1 z.2.2.2.2.2.2.1 z.2.2.2.2.2.2.2.1 z.2.2.2.2.2.2.2.2.1 z.2.2.2.2.2.2.2.2.2.1 z.2.2.2.2.2.2.2.2.2.2.1 z.2.2.2.2.2.2.2.2.2.2.2) ((-1), 0, p0, 0, 0, p0, 0, 0, 0, 0, 0, 0)).bind fun d =>
 some ((d.2.1, d.2.2.1, d.2.2.2.1, d.2.2.2.2.1, d.2.2.2.2.2.1), d.1)
def F_impl_BestVec : Fn := ⟨[.val false cNI false, .val false (.one (.sl cPt)) false], [.val true cVec true, .val false cNI true], fun a => impl_BestVec a.1 a.2⟩
def a_impl_BestVec : List (Nat × LoopAnn) := [(0, ⟨⟨(7, false, [dI]) :: (18, false, [dI]) :: us 27 3 (us 41 4 (us 47 7 [])), [(266240, .box [dI, dI, dI, dI, dI]), (525312, .box [dI, dI, dI, dI, dI])]⟩,
 ⟨[(7, false, [dI])], [(266240, .box [dI, dI, dI, dI, dI]), (525312, .box [dI, dI, dI, dI, dI])]⟩, none⟩)]
theorem m_impl_BestVec : Meets Tryz.prog 281 F_impl_BestVec := mkM g_347 281 Tryz.f281 a_impl_BestVec F_impl_BestVec Tryz.func281 (by kernel_rfl) (by kernel_rfl) (by kernel_rfl)
def fns_281 : List (FuncId × Fn) := (281, F_impl_BestVec) :: fns_347
theorem g_281 : Good Tryz.prog ⟨tis, fns_281, [], false⟩ := g_347.cons m_impl_BestVec
def impl_SayVec (id0 : Int) (l1 : List Pt) (port2 : Int) : Option Vec :=
 (impl_BestVec id0 l1).bind fun t12 =>
 some (t12.1.1, t12.1.2.1, t12.1.2.2.1, t12.1.2.2.2.1, port2)
def F_impl_SayVec : Fn := ⟨[.val false cNI false, .val false (.one (.sl cPt)) false, .val false cNI false], [.val true cVec true], fun a => impl_SayVec a.1 a.2.1 a.2.2⟩
theorem m_impl_SayVec : Meets Tryz.prog 278 F_impl_SayVec := mkM g_281 278 Tryz.f278 [] F_impl_SayVec Tryz.func278 (by kernel_rfl) (by kernel_rfl) (by kernel_rfl)
def fns_278 : List (FuncId × Fn) := (278, F_impl_SayVec) :: fns_281
theorem g_278 : Good Tryz.prog ⟨tis, fns_278, [], false⟩ := g_281.cons m_impl_SayVec
def impl_RoleOf (id0 : Int) (l1 : List Pt) (port2 : Int) : Option Int :=
 (impl_in port2 0 (w64 ((l1.length : Int) - 1))).bind fun t13 =>
 (cond (!t13)
 (some true)
 ((at? l1 port2).bind fun x18 =>
 some (!x18.1))).bind fun t22 =>
 cond t22
 (some 4)
 ((impl_BestVec id0 l1).bind fun t26 =>
 cond (t26.2 == port2)
 (some 1)
 ((at? l1 port2).bind fun x36 =>
 (cond (!x36.2.2.1)
 (some true)
 ((impl_SayVec id0 l1 port2).bind fun t44 =>
 (at? l1 port2).bind fun x47 =>
 (impl_LessVec t44 x47.2.2.2).bind fun t50 =>
 some t50)).bind fun t51 =>
 cond t51 (some 2) (some 3)))
def F_impl_RoleOf : Fn := ⟨[.val false cNI false, .val false (.one (.sl cPt)) false, .val false cNI false], [.val false cNI true], fun a => impl_RoleOf a.1 a.2.1 a.2.2⟩
theorem m_impl_RoleOf : Meets Tryz.prog 173 F_impl_RoleOf := mkM g_278 173 Tryz.f173 [] F_impl_RoleOf Tryz.func173 (by kernel_rfl) (by kernel_rfl) (by kernel_rfl)
def fns_173 : List (FuncId × Fn) := (173, F_impl_RoleOf) :: fns_278
theorem g_173 : Good Tryz.prog ⟨tis, fns_173, [], false⟩ := g_278.cons m_impl_RoleOf
def impl_bit (is0 : Bool) : Option Int :=
 cond is0 (some 1) (some 0)
def F_impl_bit : Fn := ⟨[.val false cNB false], [.val false cNI true], fun a => impl_bit a⟩
theorem m_impl_bit : Meets Tryz.prog 306 F_impl_bit := mkM g_173 306 Tryz.f306 [] F_impl_bit Tryz.func306 (by kernel_rfl) (by kernel_rfl) (by kernel_rfl)
def fns_306 : List (FuncId × Fn) := (306, F_impl_bit) :: fns_173
theorem g_306 : Good Tryz.prog ⟨tis, fns_306, [], false⟩ := g_173.cons m_impl_bit
def impl_portThing (b0 : Bridge) (c1 : Int) (p2 : Int) : Option Int :=
 cond (c1 == 1)
 ((at? b0.2.2.1 p2).bind fun x13 =>
 (impl_bit x13.1).bind fun t16 =>
 some t16)
 (cond (c1 == 2)
 ((at? b0.2.2.1 p2).bind fun x22 =>
 some x22.2.1)
 (cond (c1 == 3)
 ((impl_RoleOf b0.1 b0.2.2.1 p2).bind fun t32 =>
 some t32)
 ((at? b0.2.2.2.2.2.1 p2).bind fun x37 =>
 some x37)))
def F_impl_portThing : Fn := ⟨[.val true cBridge false, .val false cNI false, .val false cNI false], [.val false cNI true], fun a => impl_portThing a.1 a.2.1 a.2.2⟩
theorem m_impl_portThing : Meets Tryz.prog 200 F_impl_portThing := mkM g_306 200 Tryz.f200 [] F_impl_portThing Tryz.func200 (by kernel_rfl) (by kernel_rfl) (by kernel_rfl)
def fns_200 : List (FuncId × Fn) := (200, F_impl_portThing) :: fns_306
theorem g_200 : Good Tryz.prog ⟨tis, fns_200, [], false⟩ := g_306.cons m_impl_portThing
def impl_MibList_l0 (p0 : Bridge) (t32 : Int) (t3 : List Bind) : Option ((Int × List Bind) ⊕ (List Bind)) :=
 cond (decide (t32 < ([p0.2.2.2.2.2.2.1, p0.2.2.2.2.2.2.2.1, p0.2.2.2.2.2.2.2.2.1, p0.2.2.2.2.2.2.2.2.2.1].length : Int)))
 ((ix [p0.2.2.2.2.2.2.1, p0.2.2.2.2.2.2.2.1, p0.2.2.2.2.2.2.2.2.1, p0.2.2.2.2.2.2.2.2.2.1].length t32).bind fun j35 =>
 ([p0.2.2.2.2.2.2.1, p0.2.2.2.2.2.2.2.1, p0.2.2.2.2.2.2.2.2.1, p0.2.2.2.2.2.2.2.2.2.1][j35]?).bind fun x36 =>
 (impl_number x36).bind fun t39 =>
 (impl_thing t39 [1, w64 (t32 + 2)]).bind fun t43 =>
 (app t3 [t43]).bind fun zs45 =>
 some (.inl (w64 (t32 + 1), zs45)))
 (some (.inr t3))
def impl_MibList_l4 (p0 : Bridge) (t6 : Int) (t54 : Int) (t3_3 : List Bind) : Option ((Int × List Bind) ⊕ (List Bind)) :=
 cond (decide (t54 < (p0.2.2.1.length : Int)))
 ((impl_portThing p0 t6 t54).bind fun t61 =>
 (impl_number t61).bind fun t62 =>
 (impl_thing t62 [2, t6, w64 (t54 + 1)]).bind fun t67 =>
 (app t3_3 [t67]).bind fun zs69 =>
 some (.inl (w64 (t54 + 1), zs69)))
 (some (.inr t3_3))
def impl_MibList_l2 (p0 : Bridge) (t6 : Int) (t3_2 : List Bind) : Option ((Int × List Bind) ⊕ (List Bind)) :=
 cond (decide (t6 ≤ 4))
 ((loop (fun z => impl_MibList_l4 p0 t6 z.1 z.2) (0, t3_2)).bind fun d_1 =>
 some (.inl (w64 (t6 + 1), d_1)))
 (some (.inr t3_2))
def impl_MibList_l8 (p0 : Bridge) (t8 : Int) (t79 : Int) (t3_7 : List Bind) : Option ((Int × List Bind) ⊕ (List Bind)) :=
 cond (decide (t79 < (p0.2.2.2.2.1.length : Int)))
 ((at? p0.2.2.2.2.1 t79).bind fun x81 =>
 (ix [1, x81.2.1, x81.2.2].length (w64 (t8 - 1))).bind fun j91 =>
 ([1, x81.2.1, x81.2.2][j91]?).bind fun x92 =>
 (impl_number x92).bind fun t93 =>
 (impl_thing t93 [3, t8, x81.1]).bind fun t98 =>
 (app t3_7 [t98]).bind fun zs100 =>
 some (.inl (w64 (t79 + 1), zs100)))
 (some (.inr t3_7))
def impl_MibList_l6 (p0 : Bridge) (t8 : Int) (t3_6 : List Bind) : Option ((Int × List Bind) ⊕ (List Bind)) :=
 cond (decide (t8 ≤ 3))
 ((loop (fun z => impl_MibList_l8 p0 t8 z.1 z.2) (0, t3_6)).bind fun d_3 =>
 some (.inl (w64 (t8 + 1), d_3)))
 (some (.inr t3_6))
def impl_MibList_l10 (p0 : Bridge) (t105 : Int) (t3_10 : List Bind) : Option ((Int × List Bind) ⊕ (List Bind)) :=
 cond (decide (t105 < (p0.2.2.2.1.length : Int)))
 ((at? p0.2.2.2.1 t105).bind fun x107 =>
 (impl_number (w64 (x107.2.2.1 + 1))).bind fun t113 =>
 (impl_thing t113 [4, 1, x107.1, x107.2.1]).bind fun t119 =>
 (app t3_10 [t119]).bind fun zs121 =>
 some (.inl (w64 (t105 + 1), zs121)))
 (some (.inr t3_10))
def impl_MibList (p0 : Bridge) : Option (List Bind) :=
 (impl_BridgeOk p0).bind fun t14 =>
 cond (!t14)
 (some [])
 ((impl_thing (4, 0, p0.2.1, []) ([1, 1] : List Int)).bind fun t20 =>
 (loop (fun z => impl_MibList_l0 p0 z.1 z.2) (0, [t20])).bind fun d =>
 (loop (fun z => impl_MibList_l2 p0 z.1 z.2) (1, d)).bind fun d_2 =>
 (loop (fun z => impl_MibList_l6 p0 z.1 z.2) (1, d_2)).bind fun d_4 =>
 (loop (fun z => impl_MibList_l10 p0 z.1 z.2) (0, d_4)).bind fun d_5 =>
 some d_5)
def F_impl_MibList : Fn := ⟨[.val true cBridge false], [.val false (.one (.sl cBind)) false], fun a => impl_MibList a⟩
def a_impl_MibList : List (Nat × LoopAnn) := [(0, ⟨⟨[(3, false, [.own 1000000000]), (32, false, [dI])], [(1000000000, .root cBind false)]⟩,
 ⟨[(3, false, [.own 1000000300])], [(1000000300, .root cBind false)]⟩, none⟩),
 (2, ⟨⟨[(3, false, [.own 1000002000]), (6, false, [dI])], [(1000002000, .root cBind false)]⟩,
 ⟨[(3, false, [.own 1000002300])], [(1000002300, .root cBind false)]⟩, none⟩),
 (4, ⟨⟨[(3, false, [.own 1000004000]), (54, false, [dI])], [(1000004000, .root cBind false)]⟩,
 ⟨[(3, false, [.own 1000004300])], [(1000004300, .root cBind false)]⟩, none⟩),
 (6, ⟨⟨[(3, false, [.own 1000006000]), (8, false, [dI])], [(1000006000, .root cBind false)]⟩,
 ⟨[(3, false, [.own 1000006300])], [(1000006300, .root cBind false)]⟩, none⟩),
 (8, ⟨⟨[(3, false, [.own 1000008000]), (79, false, [dI])], [(1000008000, .root cBind false)]⟩,
 ⟨[(3, false, [.own 1000008300])], [(1000008300, .root cBind false)]⟩, none⟩),
 (10, ⟨⟨[(3, false, [.own 1000010000]), (105, false, [dI])], [(1000010000, .root cBind false)]⟩,
 ⟨[(3, false, [.own 1000010300])], [(1000010300, .root cBind false)]⟩, none⟩)]
theorem m_impl_MibList : Meets Tryz.prog 86 F_impl_MibList := mkM g_200 86 Tryz.f86 a_impl_MibList F_impl_MibList Tryz.func86 (by kernel_rfl) (by kernel_rfl) (by kernel_rfl)
def fns_86 : List (FuncId × Fn) := (86, F_impl_MibList) :: fns_200
theorem g_86 : Good Tryz.prog ⟨tis, fns_86, [], false⟩ := g_200.cons m_impl_MibList
def impl_MibGet_l0 (o1 : List Int) (t8 : List Bind) (t10 : Int) (b0_1 : Int) (b1 : Int) (b2 : List UInt8) (b3 : List Int) : Option ((Int × Int × Int × List UInt8 × List Int) ⊕ ((Int × Int × List UInt8 × List Int) ⊕ (Int × Int × List UInt8 × List Int))) :=
 cond (decide (t10 < (t8.length : Int)))
 ((at? t8 t10).bind fun x12 =>
 (impl_SameOid x12.1 o1).bind fun t17 =>
 cond t17
 (some (.inr (.inr x12.2)))
 (some (.inl (w64 (t10 + 1), b0_1, b1, b2, b3))))
 (some (.inr (.inl (b0_1, b1, b2, b3))))
def impl_MibGet (b0 : Bridge) (o1 : List Int) : Option Val :=
 (impl_MibList b0).bind fun t8 =>
 (loop (fun z => impl_MibGet_l0 o1 t8 z.1 z.2.1 z.2.2.1 z.2.2.2.1 z.2.2.2.2) (0, 0, 0, [], [])).bind (Sum.elim (fun d =>
 some (128, 0, [], [])) (fun r => some r))
def F_impl_MibGet : Fn := ⟨[.val true cBridge false, .val false cNN false], [.val true cVal false], fun a => impl_MibGet a.1 a.2⟩
def a_impl_MibGet : List (Nat × LoopAnn) := [(0, ⟨⟨[(10, false, [dI])], [(2048, .box [dI, dI, dS, .own 1000000000]), (1000000000, .root cNI true)]⟩,
 ⟨[], [(2048, .box [dI, dI, dS, .own 1000000300]), (1000000300, .root cNI true)]⟩, some ⟨[], [(2048, .box [dI, dI, dS, .dat (.sl cNI)])]⟩⟩)]
theorem m_impl_MibGet : Meets Tryz.prog 28 F_impl_MibGet := mkM g_86 28 Tryz.f28 a_impl_MibGet F_impl_MibGet Tryz.func28 (by kernel_rfl) (by kernel_rfl) (by kernel_rfl)
def fns_28 : List (FuncId × Fn) := (28, F_impl_MibGet) :: fns_86
theorem g_28 : Good Tryz.prog ⟨tis, fns_28, [], false⟩ := g_86.cons m_impl_MibGet
def spec_l1New_l0 (code0 : List Int) (h3_1 : Int) (i4 : Int) : Option ((Int × Int) ⊕ Int) :=
 (cond (decide (i4 < (code0.length : Int))) (some (decide (i4 < 4000))) (some false)).bind fun t15 =>
 cond t15
 ((at? code0 i4).bind fun x22 =>
 let h3_2 := band .i64 (w64 ((w64 ((w64 (h3_1 * 137)) + (w64 (x22)))) + 11)) 1073741823
 some (.inl (h3_2, w64 (i4 + 1))))
 (some (.inr h3_1))
def spec_l1New (code0 : List Int) : Option L1Cur :=
 let h3 := w64 (762762 + (code0.length : Int))
 (loop (fun z => spec_l1New_l0 code0 z.1 z.2) (h3, 0)).bind fun d =>
 some (code0, 0, d)
def F_spec_l1New : Fn := ⟨[.val false cNY false], [.ptr cL1Cur false], fun a => spec_l1New a⟩
def a_spec_l1New : List (Nat × LoopAnn) := [(0, ⟨⟨[(3, false, [dI]), (4, false, [dI]), (13, false, [.undef]), (14, false, [.undef])], []⟩,
 ⟨[(3, false, [dI])], []⟩, none⟩)]
theorem m_spec_l1New : Meets Tryz.prog 77 F_spec_l1New := mkM g_28 77 Tryz.f77 a_spec_l1New F_spec_l1New Tryz.func77 (by kernel_rfl) (by kernel_rfl) (by kernel_rfl)
def fns_77 : List (FuncId × Fn) := (77, F_spec_l1New) :: fns_28
theorem g_77 : Good Tryz.prog ⟨tis, fns_77, [], false⟩ := g_28.cons m_spec_l1New
def spec_l1Byte (c0 : L1Cur) : Option (L1Cur × Int) :=
 let x3 := band .i64 (bxor .i64 ((w64 ((w64 (c0.2.2 * 6364136223846793005)) + 1442695040888963407)).fdiv (2 ^ 33)) ((w64 ((w64 (c0.2.2 * 6364136223846793005)) + 1442695040888963407)).fdiv (2 ^ 47))) 255
 cond (decide (c0.2.1 < (c0.1.length : Int)))
 ((at? c0.1 c0.2.1).bind fun x44 =>
 let x3_1 := band .i64 (w64 (x3 + (w64 (x44)))) 255
 some ((c0.1, w64 (c0.2.1 + 1), w64 ((w64 (c0.2.2 * 6364136223846793005)) + 1442695040888963407)), x3_1))
 (some ((c0.1, c0.2.1, w64 ((w64 (c0.2.2 * 6364136223846793005)) + 1442695040888963407)), x3))
def F_spec_l1Byte : Fn := ⟨[.ptr cL1Cur false], [.val false cNI true], fun a => spec_l1Byte a⟩
theorem m_spec_l1Byte : Meets Tryz.prog 231 F_spec_l1Byte := mkM g_77 231 Tryz.f231 [] F_spec_l1Byte Tryz.func231 (by kernel_rfl) (by kernel_rfl) (by kernel_rfl)
def fns_231 : List (FuncId × Fn) := (231, F_spec_l1Byte) :: fns_77
theorem g_231 : Good Tryz.prog ⟨tis, fns_231, [], false⟩ := g_77.cons m_spec_l1Byte
def spec_l1Below (c0 : L1Cur) (n1 : Int) : Option (L1Cur × Int) :=
 cond (decide (n1 ≤ 0))
 (some (c0, 0))
 (cond (decide (n1 ≤ 256))
 ((spec_l1Byte c0).bind fun t13 =>
 (rem t13.2 n1).bind fun t15 =>
 some (t13.1, t15))
 ((spec_l1Byte c0).bind fun t17 =>
 (spec_l1Byte t17.1).bind fun t19 =>
 (spec_l1Byte t19.1).bind fun t21 =>
 (rem (w64 ((w64 ((w64 (t17.2 * 65536)) + (w64 (t19.2 * 256)))) + t21.2)) n1).bind fun t30 =>
 some (t21.1, t30)))
def F_spec_l1Below : Fn := ⟨[.ptr cL1Cur false, .val false cNI false], [.val false cNI true], fun a => spec_l1Below a.1 a.2⟩
theorem m_spec_l1Below : Meets Tryz.prog 107 F_spec_l1Below := mkM g_231 107 Tryz.f107 [] F_spec_l1Below Tryz.func107 (by kernel_rfl) (by kernel_rfl) (by kernel_rfl)
def fns_107 : List (FuncId × Fn) := (107, F_spec_l1Below) :: fns_231
theorem g_107 : Good Tryz.prog ⟨tis, fns_107, [], false⟩ := g_231.cons m_spec_l1Below
def spec_l1Once (c0 : L1Cur) (n1 : Int) : Option (L1Cur × Bool) :=
 (spec_l1Below c0 n1).bind fun t7 =>
 some (t7.1, t7.2 == 0)
def F_spec_l1Once : Fn := ⟨[.ptr cL1Cur false, .val false cNI false], [.val false cNB true], fun a => spec_l1Once a.1 a.2⟩
theorem m_spec_l1Once : Meets Tryz.prog 103 F_spec_l1Once := mkM g_107 103 Tryz.f103 [] F_spec_l1Once Tryz.func103 (by kernel_rfl) (by kernel_rfl) (by kernel_rfl)
def fns_103 : List (FuncId × Fn) := (103, F_spec_l1Once) :: fns_107
theorem g_103 : Good Tryz.prog ⟨tis, fns_103, [], false⟩ := g_107.cons m_spec_l1Once
def spec_l1In (x0 : Int) (least1 : Int) (most2 : Int) : Option Bool :=
 (cond (decide (x0 ≥ least1)) (some (decide (x0 ≤ most2))) (some false)).bind fun t14 =>
 some t14
def F_spec_l1In : Fn := ⟨[.val false cNI false, .val false cNI false, .val false cNI false], [.val false cNB true], fun a => spec_l1In a.1 a.2.1 a.2.2⟩
theorem m_spec_l1In : Meets Tryz.prog 150 F_spec_l1In := mkM g_103 150 Tryz.f150 [] F_spec_l1In Tryz.func150 (by kernel_rfl) (by kernel_rfl) (by kernel_rfl)
def fns_150 : List (FuncId × Fn) := (150, F_spec_l1In) :: fns_103
theorem g_150 : Good Tryz.prog ⟨tis, fns_150, [], false⟩ := g_103.cons m_spec_l1In
def spec_VtabNew_l0 (ports0 : Int) (i5 : Int) (b1 : List Int) : Option ((Int × List Int) ⊕ (List Int)) :=
 cond (decide (i5 < ports0))
 ((app b1 ([1] : List Int)).bind fun zs27 =>
 some (.inl (w64 (i5 + 1), zs27)))
 (some (.inr b1))
def spec_VtabNew (ports0 : Int) : Option Vtab :=
 (spec_l1In ports0 1 6).bind fun t7 =>
 cond (!t7)
 (some ([], []))
 ((shl .i64 1 (IntKind.u64.wrap (ports0))).bind fun t12 =>
 (loop (fun z => spec_VtabNew_l0 ports0 z.1 z.2) (0, [])).bind fun d =>
 some ([(1, w64 (t12 - 1), w64 (t12 - 1))], d))
def F_spec_VtabNew : Fn := ⟨[.val false cNI false], [.val true cVtab true], fun a => spec_VtabNew a⟩
def a_spec_VtabNew : List (Nat × LoopAnn) := [(0, ⟨⟨[(5, false, [dI])], [(1054720, .box [.same 1052672, .own 1000000000]), (1000000000, .root cNI true)]⟩,
 ⟨[], [(1054720, .box [.same 1052672, .own 1000000300]), (1000000300, .root cNI true)]⟩, none⟩)]
theorem m_spec_VtabNew : Meets Tryz.prog 294 F_spec_VtabNew := mkM g_150 294 Tryz.f294 a_spec_VtabNew F_spec_VtabNew Tryz.func294 (by kernel_rfl) (by kernel_rfl) (by kernel_rfl)
def fns_294 : List (FuncId × Fn) := (294, F_spec_VtabNew) :: fns_150
theorem g_294 : Good Tryz.prog ⟨tis, fns_294, [], false⟩ := g_150.cons m_spec_VtabNew
def spec_BridgeNew_l0 (ports1 : Int) (i6 : Int) (b0 : Int) (b1 : List UInt8) (b6 : Int) (b7 : Int) (b8 : Int) (b9 : Int) (b10 : Int) (b2 : List Pt) (b3 : List Fent) : Option ((Int × Int × List UInt8 × Int × Int × Int × Int × Int × List Pt × List Fent) ⊕ (Int × List UInt8 × Int × Int × Int × Int × Int × List Pt × List Fent)) :=
 cond (decide (i6 < ports1))
 ((app b2 [(false, 1, false, 0, 0, 0, 0, 0)]).bind fun zs29 =>
 some (.inl (w64 (i6 + 1), b0, b1, b6, b7, b8, b9, b10, zs29, b3)))
 (some (.inr (b0, b1, b6, b7, b8, b9, b10, b2, b3)))
def spec_BridgeNew (id0 : Int) (ports1 : Int) : Option Bridge :=
 (spec_l1In id0 1 99).bind fun t8 =>
 (cond (!t8)
 (some true)
 ((spec_l1In ports1 1 6).bind fun t12 =>
 some (!t12))).bind fun t14 =>
 cond t14
 (some (0, [], [], [], [], [], 0, 0, 0, 0, 0))
 ((spec_VtabNew ports1).bind fun t18 =>
 (loop (fun z => spec_BridgeNew_l0 ports1 z.1 z.2.1 z.2.2.1 z.2.2.2.1 z.2.2.2.2.1 z.2.2.2.2.2.1 z.2.2.2.2.2.2.1 z.2.2.2.2.2.2.2.1 z.2.2.2.2.2.2.2.2.1 z.2.2.2.2.2.2.2.2.2) (0, id0, [], 0, 0, 0, 0, 0, [], [])).bind fun d =>
 some (d.1, d.2.1, d.2.2.2.2.2.2.2.1, d.2.2.2.2.2.2.2.2, t18.1, t18.2, d.2.2.1, d.2.2.2.1, d.2.2.2.2.1, d.2.2.2.2.2.1, d.2.2.2.2.2.2.1))
def F_spec_BridgeNew : Fn := ⟨[.val false cNI false, .val false cNI false], [.val true cBridge true], fun a => spec_BridgeNew a.1 a.2⟩
def a_spec_BridgeNew : List (Nat × LoopAnn) := [(0, ⟨⟨[(6, false, [dI])], [(791552, .box [dI, dS, .own 1000000000, .own 1000000001, .same 789504, .same 789505, dI, dI, dI, dI, dI]), (1000000000, .root cPt true), (1000000001, .root cFent true)]⟩,
 ⟨[], [(791552, .box [dI, dS, .own 1000000300, .own 1000000301, .same 789504, .same 789505, dI, dI, dI, dI, dI]), (1000000300, .root cPt true), (1000000301, .root cFent true)]⟩, none⟩)]
theorem m_spec_BridgeNew : Meets Tryz.prog 181 F_spec_BridgeNew := mkM g_294 181 Tryz.f181 a_spec_BridgeNew F_spec_BridgeNew Tryz.func181 (by kernel_rfl) (by kernel_rfl) (by kernel_rfl)
def fns_181 : List (FuncId × Fn) := (181, F_spec_BridgeNew) :: fns_294
theorem g_181 : Good Tryz.prog ⟨tis, fns_181, [], false⟩ := g_294.cons m_spec_BridgeNew
def spec_l1Str (c0 : L1Cur) (list1 : List (List UInt8)) : Option (L1Cur × List UInt8) :=
 (spec_l1Below c0 (list1.length : Int)).bind fun t9 =>
 (at? list1 t9.2).bind fun x10 =>
 some (t9.1, x10)
def F_spec_l1Str : Fn := ⟨[.ptr cL1Cur false, .val false (.one (.sl cNS)) false], [.val false cNS true], fun a => spec_l1Str a.1 a.2⟩
theorem m_spec_l1Str : Meets Tryz.prog 182 F_spec_l1Str := mkM g_181 182 Tryz.f182 [] F_spec_l1Str Tryz.func182 (by kernel_rfl) (by kernel_rfl) (by kernel_rfl)
def fns_182 : List (FuncId × Fn) := (182, F_spec_l1Str) :: fns_181
theorem g_182 : Good Tryz.prog ⟨tis, fns_182, [], false⟩ := g_181.cons m_spec_l1Str
def spec_l1Int (c0 : L1Cur) (list1 : List Int) : Option (L1Cur × Int) :=
 (spec_l1Below c0 (list1.length : Int)).bind fun t9 =>
 (at? list1 t9.2).bind fun x10 =>
 some (t9.1, x10)
def F_spec_l1Int : Fn := ⟨[.ptr cL1Cur false, .val false cNN false], [.val false cNI true], fun a => spec_l1Int a.1 a.2⟩
theorem m_spec_l1Int : Meets Tryz.prog 188 F_spec_l1Int := mkM g_182 188 Tryz.f188 [] F_spec_l1Int Tryz.func188 (by kernel_rfl) (by kernel_rfl) (by kernel_rfl)
def fns_188 : List (FuncId × Fn) := (188, F_spec_l1Int) :: fns_182
theorem g_188 : Good Tryz.prog ⟨tis, fns_188, [], false⟩ := g_182.cons m_spec_l1Int
def spec_l7Draw (c0 : L1Cur) : Option (L1Cur × Vec) :=
 (spec_l1Below c0 5).bind fun t4 =>
 (spec_l1Int t4.1 ([0, 1, 2, 5, 10, 100] : List Int)).bind fun t8 =>
 (spec_l1Int t8.1 ([0, 1, 2, 9, 10] : List Int)).bind fun t11 =>
 (spec_l1Below t11.1 5).bind fun t13 =>
 (spec_l1Below t13.1 4).bind fun t16 =>
 some (t16.1, (w64 (1 + t4.2), t8.2, t11.2, w64 (1 + t13.2), t16.2))
def F_spec_l7Draw : Fn := ⟨[.ptr cL1Cur false], [.val true cVec true], fun a => spec_l7Draw a⟩
theorem m_spec_l7Draw : Meets Tryz.prog 295 F_spec_l7Draw := mkM g_188 295 Tryz.f295 [] F_spec_l7Draw Tryz.func295 (by kernel_rfl) (by kernel_rfl) (by kernel_rfl)
def fns_295 : List (FuncId × Fn) := (295, F_spec_l7Draw) :: fns_188
theorem g_295 : Good Tryz.prog ⟨tis, fns_295, [], false⟩ := g_188.cons m_spec_l7Draw
def spec_l10Draw_l0 (n1 : Int) (i6 : Int) (b0 : List Int) (b1 : Int) (b2 : Int) (out5 : List Pt) : Option ((Int × List Int × Int × Int × List Pt) ⊕ (List Int × Int × Int × List Pt)) :=
 cond (decide (i6 < n1))
 ((spec_l1Once (b0, b1, b2) 4).bind fun t15 =>
 (spec_l1Int t15.1 ([1, 1, 2, 5, 10] : List Int)).bind fun t19 =>
 cond (!t15.2)
 ((spec_l1Once t19.1 4).bind fun t25 =>
 cond (!t25.2)
 ((spec_l7Draw t25.1).bind fun t30 =>
 (app out5 [(!t15.2, t19.2, true, t30.2.1, t30.2.2.1, t30.2.2.2.1, t30.2.2.2.2.1, t30.2.2.2.2.2)]).bind fun zs35 =>
 some (.inl (w64 (i6 + 1), t30.1.1, t30.1.2.1, t30.1.2.2, zs35)))
 ((app out5 [(!t15.2, t19.2, false, 0, 0, 0, 0, 0)]).bind fun zs35_1 =>
 some (.inl (w64 (i6 + 1), t25.1.1, t25.1.2.1, t25.1.2.2, zs35_1))))
 ((app out5 [(!t15.2, t19.2, false, 0, 0, 0, 0, 0)]).bind fun zs35_2 =>
 some (.inl (w64 (i6 + 1), t19.1.1, t19.1.2.1, t19.1.2.2, zs35_2))))
 (some (.inr (b0, b1, b2, out5)))
def spec_l10Draw (c0 : L1Cur) (n1 : Int) : Option (L1Cur × List Pt) :=
 (loop (fun z => spec_l10Draw_l0 n1 z.1 z.2.1 z.2.2.1 z.2.2.2.1 z.2.2.2.2) (0, c0.1, c0.2.1, c0.2.2, ([] : List Pt))).bind fun d =>
 some ((d.1, d.2.1, d.2.2.1), d.2.2.2)
def F_spec_l10Draw : Fn := ⟨[.ptr cL1Cur false, .val false cNI false], [.val false (.one (.sl cPt)) true], fun a => spec_l10Draw a.1 a.2⟩
def a_spec_l10Draw : List (Nat × LoopAnn) := [(0, ⟨⟨(5, false, [.own 1000000000]) :: (6, false, [dI]) :: us 24 3 [], [(1, .box [.dat (.sl (.one (.int .u8))), dI, dI]), (1000000000, .root cPt true)]⟩,
 ⟨[(5, false, [.own 1000000300])], [(1, .box [.dat (.sl (.one (.int .u8))), dI, dI]), (1000000300, .root cPt true)]⟩, none⟩)]
theorem m_spec_l10Draw : Meets Tryz.prog 183 F_spec_l10Draw := mkM g_295 183 Tryz.f183 a_spec_l10Draw F_spec_l10Draw Tryz.func183 (by kernel_rfl) (by kernel_rfl) (by kernel_rfl)
def fns_183 : List (FuncId × Fn) := (183, F_spec_l10Draw) :: fns_295
theorem g_183 : Good Tryz.prog ⟨tis, fns_183, [], false⟩ := g_295.cons m_spec_l10Draw
def spec_RowAt_l0 (v0 : Vtab) (id1 : Int) (i5 : Int) : Option (Int ⊕ (Unit ⊕ Int)) :=
 cond (decide (i5 < (v0.1.length : Int)))
 ((at? v0.1 i5).bind fun x16 =>
 cond (x16.1 == id1) (some (.inr (.inr i5))) (some (.inl (w64 (i5 + 1)))))
 (some (.inr (.inl ())))
def spec_RowAt (v0 : Vtab) (id1 : Int) : Option Int :=
 (loop (fun z => spec_RowAt_l0 v0 id1 z) 0).bind (Sum.elim (fun d =>
 some (-1)) (fun r => some r))
def F_spec_RowAt : Fn := ⟨[.val true cVtab false, .val false cNI false], [.val false cNI true], fun a => spec_RowAt a.1 a.2⟩
def a_spec_RowAt : List (Nat × LoopAnn) := [(0, ⟨⟨[(5, false, [dI])], []⟩,
 ⟨[], []⟩, some ⟨[(4, false, [dI])], []⟩⟩)]
theorem m_spec_RowAt : Meets Tryz.prog 220 F_spec_RowAt := mkM g_183 220 Tryz.f220 a_spec_RowAt F_spec_RowAt Tryz.func220 (by kernel_rfl) (by kernel_rfl) (by kernel_rfl)
def fns_220 : List (FuncId × Fn) := (220, F_spec_RowAt) :: fns_183
theorem g_220 : Good Tryz.prog ⟨tis, fns_220, [], false⟩ := g_183.cons m_spec_RowAt
def spec_VtabOk_l0 (p0 : Vtab) (t27 : Int) (t6 : Int) : Option (Int ⊕ (Unit ⊕ Bool)) :=
 cond (decide (t6 < (p0.1.length : Int)))
 ((at? p0.1 t6).bind fun x39 =>
 (spec_l1In x39.1 1 99).bind fun t43 =>
 (cond (!t43)
 (some true)
 ((spec_l1In x39.2.1 0 (w64 (t27 - 1))).bind fun t49 =>
 some (!t49))).bind fun t51 =>
 (cond t51
 (some true)
 ((spec_l1In x39.2.2 0 (w64 (t27 - 1))).bind fun t56 =>
 some (!t56))).bind fun t58 =>
 (cond t58 (some true) (some ((band .i64 x39.2.2 x39.2.1) != x39.2.2))).bind fun t68 =>
 (cond t68
 (some true)
 ((cond (decide (t6 > 0))
 ((at? p0.1 (w64 (t6 - 1))).bind fun x77 =>
 some (decide (x77.1 ≥ x39.1)))
 (some false)).bind fun t83 =>
 some t83)).bind fun t84 =>
 cond t84 (some (.inr (.inr false))) (some (.inl (w64 (t6 + 1)))))
 (some (.inr (.inl ())))
def spec_VtabOk_l2 (p0 : Vtab) (t8 : Int) : Option (Int ⊕ (Unit ⊕ Bool)) :=
 cond (decide (t8 < (p0.2.length : Int)))
 ((at? p0.2 t8).bind fun x96 =>
 (spec_RowAt p0 x96).bind fun t98 =>
 cond (decide (t98 < 0)) (some (.inr (.inr false))) (some (.inl (w64 (t8 + 1)))))
 (some (.inr (.inl ())))
def spec_VtabOk (p0 : Vtab) (i1 : Int) : Option Bool :=
 (spec_l1In i1 1 6).bind fun t10 =>
 (cond (!t10) (some true) (some ((p0.2.length : Int) != i1))).bind fun t18 =>
 (cond t18 (some true) (some (decide ((p0.1.length : Int) > 6)))).bind fun t24 =>
 cond t24
 (some false)
 ((shl .i64 1 (IntKind.u64.wrap (i1))).bind fun t27 =>
 (loop (fun z => spec_VtabOk_l0 p0 t27 z) 0).bind (Sum.elim (fun d =>
 (loop (fun z => spec_VtabOk_l2 p0 z) 0).bind (Sum.elim (fun d_1 =>
 some true) (fun r => some r))) (fun r_1 => some r_1)))
def F_spec_VtabOk : Fn := ⟨[.val true cVtab false, .val false cNI false], [.val false cNB true], fun a => spec_VtabOk a.1 a.2⟩
def a_spec_VtabOk : List (Nat × LoopAnn) := [(0, ⟨⟨(6, false, [dI]) :: us 46 5 (us 53 5 (us 60 8 (us 70 14 []))), []⟩,
 ⟨[], []⟩, some ⟨[(4, false, [dB])], []⟩⟩),
 (2, ⟨⟨[(8, false, [dI])], []⟩,
 ⟨[], []⟩, some ⟨[(4, false, [dB])], []⟩⟩)]
theorem m_spec_VtabOk : Meets Tryz.prog 97 F_spec_VtabOk := mkM g_220 97 Tryz.f97 a_spec_VtabOk F_spec_VtabOk Tryz.func97 (by kernel_rfl) (by kernel_rfl) (by kernel_rfl)
def fns_97 : List (FuncId × Fn) := (97, F_spec_VtabOk) :: fns_220
theorem g_97 : Good Tryz.prog ⟨tis, fns_97, [], false⟩ := g_220.cons m_spec_VtabOk
def spec_l9Copy (v0 : Vtab) : Option Vtab :=
 (app ([] : List Vrow) v0.1).bind fun zs6 =>
 (app ([] : List Int) v0.2).bind fun zs10 =>
 some (zs6, zs10)
def F_spec_l9Copy : Fn := ⟨[.val true cVtab false], [.val true cVtab true], fun a => spec_l9Copy a⟩
theorem m_spec_l9Copy : Meets Tryz.prog 212 F_spec_l9Copy := mkM g_97 212 Tryz.f212 [] F_spec_l9Copy Tryz.func212 (by kernel_rfl) (by kernel_rfl) (by kernel_rfl)
def fns_212 : List (FuncId × Fn) := (212, F_spec_l9Copy) :: fns_97
theorem g_212 : Good Tryz.prog ⟨tis, fns_212, [], false⟩ := g_97.cons m_spec_l9Copy
def spec_l9Or (x0 : Vtab) (v1 : Vtab) : Option (Vtab × Bool) :=
 (spec_VtabOk x0 (v1.2.length : Int)).bind fun t10 =>
 cond (!t10)
 ((spec_l9Copy v1).bind fun t13 =>
 some (t13, false))
 (some (x0, true))
def F_spec_l9Or : Fn := ⟨[.val true cVtab true, .val true cVtab false], [.val true cVtab true, .val false cNB true], fun a => spec_l9Or a.1 a.2⟩
theorem m_spec_l9Or : Meets Tryz.prog 352 F_spec_l9Or := mkM g_212 352 Tryz.f352 [] F_spec_l9Or Tryz.func352 (by kernel_rfl) (by kernel_rfl) (by kernel_rfl)
def fns_352 : List (FuncId × Fn) := (352, F_spec_l9Or) :: fns_212
theorem g_352 : Good Tryz.prog ⟨tis, fns_352, [], false⟩ := g_212.cons m_spec_l9Or
def spec_SetPvid (v0 : Vtab) (port1 : Int) (id2 : Int) : Option (Vtab × Bool) :=
 (spec_VtabOk v0 (v0.2.length : Int)).bind fun t13 =>
 (cond (!t13)
 (some true)
 ((spec_l1In port1 0 (w64 ((v0.2.length : Int) - 1))).bind fun t21 =>
 some (!t21))).bind fun t23 =>
 cond t23
 ((spec_l9Copy v0).bind fun t25 =>
 some (t25, false))
 ((spec_l9Copy v0).bind fun t27 =>
 (ix t27.2.length port1).bind fun j32 =>
 (t27.2[j32]?).bind fun x =>
 (spec_l9Or (t27.1, t27.2.set j32 id2) v0).bind fun t35 =>
 some t35)
def F_spec_SetPvid : Fn := ⟨[.val true cVtab false, .val false cNI false, .val false cNI false], [.val true cVtab true, .val false cNB true], fun a => spec_SetPvid a.1 a.2.1 a.2.2⟩
theorem m_spec_SetPvid : Meets Tryz.prog 296 F_spec_SetPvid := mkM g_352 296 Tryz.f296 [] F_spec_SetPvid Tryz.func296 (by kernel_rfl) (by kernel_rfl) (by kernel_rfl)
def fns_296 : List (FuncId × Fn) := (296, F_spec_SetPvid) :: fns_352
theorem g_296 : Good Tryz.prog ⟨tis, fns_296, [], false⟩ := g_352.cons m_spec_SetPvid
def spec_DropRow (v0 : Vtab) (id1 : Int) : Option (Vtab × Bool) :=
 (spec_RowAt v0 id1).bind fun t10 =>
 (spec_VtabOk v0 (v0.2.length : Int)).bind fun t15 =>
 (cond (!t15) (some true) (some (decide (t10 < 0)))).bind fun t20 =>
 cond t20
 ((spec_l9Copy v0).bind fun t22 =>
 some (t22, false))
 ((spec_l9Copy v0).bind fun t24 =>
 (cut v0.1 0 t10).bind fun t29 =>
 (app ([] : List Vrow) t29).bind fun zs30 =>
 (cut v0.1 (w64 (t10 + 1)) (v0.1.length : Int)).bind fun t35 =>
 (app zs30 t35).bind fun zs36 =>
 (spec_l9Or (zs36, t24.2) v0).bind fun t40 =>
 some t40)
def F_spec_DropRow : Fn := ⟨[.val true cVtab false, .val false cNI false], [.val true cVtab true, .val false cNB true], fun a => spec_DropRow a.1 a.2⟩
theorem m_spec_DropRow : Meets Tryz.prog 297 F_spec_DropRow := mkM g_296 297 Tryz.f297 [] F_spec_DropRow Tryz.func297 (by kernel_rfl) (by kernel_rfl) (by kernel_rfl)
def fns_297 : List (FuncId × Fn) := (297, F_spec_DropRow) :: fns_296
theorem g_297 : Good Tryz.prog ⟨tis, fns_297, [], false⟩ := g_296.cons m_spec_DropRow
def spec_l9Row_l0 (p0 : Vtab) (i1 : Vrow) (t6 : Bool) (t7 : Int) (b0 : List Vrow) : Option ((Bool × Int × List Vrow) ⊕ (Bool × List Vrow)) :=
 cond (decide (t7 < (p0.1.length : Int)))
 ((cond (!t6)
 ((at? p0.1 t7).bind fun x26 =>
 some (decide (x26.1 ≥ i1.1)))
 (some false)).bind fun t32 =>
 cond t32
 ((app b0 [i1]).bind fun zs37 =>
 (at? p0.1 t7).bind fun x42 =>
 cond (x42.1 != i1.1)
 ((at? p0.1 t7).bind fun x53 =>
 (app zs37 [x53]).bind fun zs56 =>
 some (.inl (true, w64 (t7 + 1), zs56)))
 (some (.inl (true, w64 (t7 + 1), zs37))))
 ((at? p0.1 t7).bind fun x42_1 =>
 cond (x42_1.1 != i1.1)
 ((at? p0.1 t7).bind fun x53_1 =>
 (app b0 [x53_1]).bind fun zs56_1 =>
 some (.inl (t6, w64 (t7 + 1), zs56_1)))
 (some (.inl (t6, w64 (t7 + 1), b0)))))
 (some (.inr (t6, b0)))
def spec_l9Row (p0 : Vtab) (i1 : Vrow) : Option Vtab :=
 (app ([] : List Int) p0.2).bind fun zs11 =>
 (loop (fun z => spec_l9Row_l0 p0 i1 z.1 z.2.1 z.2.2) (false, 0, [])).bind fun d =>
 cond (!d.1)
 ((app d.2 [i1]).bind fun zs64 =>
 some (zs64, zs11))
 (some (d.2, zs11))
def F_spec_l9Row : Fn := ⟨[.val true cVtab false, .val true cVrow false], [.val true cVtab true], fun a => spec_l9Row a.1 a.2⟩
def a_spec_l9Row : List (Nat × LoopAnn) := [(0, ⟨⟨(6, false, [dB]) :: (7, false, [dI]) :: us 23 9 [], [(268288, .box [.own 1000000000, .same 266240]), (1000000000, .root cVrow true)]⟩,
 ⟨[(6, false, [dB])], [(268288, .box [.own 1000000300, .same 266240]), (1000000300, .root cVrow true)]⟩, none⟩)]
theorem m_spec_l9Row : Meets Tryz.prog 313 F_spec_l9Row := mkM g_297 313 Tryz.f313 a_spec_l9Row F_spec_l9Row Tryz.func313 (by kernel_rfl) (by kernel_rfl) (by kernel_rfl)
def fns_313 : List (FuncId × Fn) := (313, F_spec_l9Row) :: fns_297
theorem g_313 : Good Tryz.prog ⟨tis, fns_313, [], false⟩ := g_297.cons m_spec_l9Row
def spec_PutRow (v0 : Vtab) (r1 : Vrow) : Option (Vtab × Bool) :=
 (spec_VtabOk v0 (v0.2.length : Int)).bind fun t10 =>
 cond (!t10)
 ((spec_l9Copy v0).bind fun t13 =>
 some (t13, false))
 ((spec_l9Row v0 r1).bind fun t16 =>
 (spec_l9Or t16 v0).bind fun t18 =>
 some t18)
def F_spec_PutRow : Fn := ⟨[.val true cVtab false, .val true cVrow false], [.val true cVtab true, .val false cNB true], fun a => spec_PutRow a.1 a.2⟩
theorem m_spec_PutRow : Meets Tryz.prog 298 F_spec_PutRow := mkM g_313 298 Tryz.f298 [] F_spec_PutRow Tryz.func298 (by kernel_rfl) (by kernel_rfl) (by kernel_rfl)
def fns_298 : List (FuncId × Fn) := (298, F_spec_PutRow) :: fns_313
theorem g_298 : Good Tryz.prog ⟨tis, fns_298, [], false⟩ := g_313.cons m_spec_PutRow
def spec_l9Row2 (c0 : L1Cur) (ports1 : Int) : Option (L1Cur × Vrow) :=
 (shl .i64 1 (IntKind.u64.wrap (ports1))).bind fun t9 =>
 (spec_l1Below c0 (w64 ((w64 (t9 - 1)) + 1))).bind fun t14 =>
 (spec_l1Int t14.1 ([1, 2, 3, 2] : List Int)).bind fun t17 =>
 (spec_l1Below t17.1 (w64 ((w64 (t9 - 1)) + 1))).bind fun t23 =>
 some (t23.1, (t17.2, t14.2, band .i64 t14.2 t23.2))
def F_spec_l9Row2 : Fn := ⟨[.ptr cL1Cur false, .val false cNI false], [.val true cVrow true], fun a => spec_l9Row2 a.1 a.2⟩
theorem m_spec_l9Row2 : Meets Tryz.prog 299 F_spec_l9Row2 := mkM g_298 299 Tryz.f299 [] F_spec_l9Row2 Tryz.func299 (by kernel_rfl) (by kernel_rfl) (by kernel_rfl)
def fns_299 : List (FuncId × Fn) := (299, F_spec_l9Row2) :: fns_298
theorem g_299 : Good Tryz.prog ⟨tis, fns_299, [], false⟩ := g_298.cons m_spec_l9Row2
def spec_l9Draw_l0 (ports1 : Int) (i6 : Int) (b0 : List Int) (b1 : Int) (b2 : Int) (b0_1 : List Vrow) (b1_1 : List Int) : Option ((Int × List Int × Int × Int × List Vrow × List Int) ⊕ (List Int × Int × Int × List Vrow × List Int)) :=
 cond (decide (i6 > 0))
 ((spec_l1Below (b0, b1, b2) 4).bind fun t16 =>
 cond (t16.2 == 0)
 ((spec_l1Below t16.1 ports1).bind fun t31 =>
 (spec_l1Below t31.1 3).bind fun t33 =>
 (spec_SetPvid (b0_1, b1_1) t31.2 (w64 (1 + t33.2))).bind fun t35 =>
 some (.inl (w64 (i6 - 1), t33.1.1, t33.1.2.1, t33.1.2.2, t35.1.1, t35.1.2)))
 (cond (t16.2 == 1)
 ((spec_l1Below t16.1 2).bind fun t43 =>
 (spec_DropRow (b0_1, b1_1) (w64 (2 + t43.2))).bind fun t45 =>
 some (.inl (w64 (i6 - 1), t43.1.1, t43.1.2.1, t43.1.2.2, t45.1.1, t45.1.2)))
 ((spec_l9Row2 t16.1 ports1).bind fun t21 =>
 (spec_PutRow (b0_1, b1_1) t21.2).bind fun t22 =>
 some (.inl (w64 (i6 - 1), t21.1.1, t21.1.2.1, t21.1.2.2, t22.1.1, t22.1.2)))))
 (some (.inr (b0, b1, b2, b0_1, b1_1)))
def spec_l9Draw (c0 : L1Cur) (ports1 : Int) : Option (L1Cur × Vtab) :=
 (spec_VtabNew ports1).bind fun t8 =>
 (spec_l1Below c0 6).bind fun t10 =>
 (loop (fun z => spec_l9Draw_l0 ports1 z.1 z.2.1 z.2.2.1 z.2.2.2.1 z.2.2.2.2.1 z.2.2.2.2.2) (t10.2, t10.1.1, t10.1.2.1, t10.1.2.2, t8.1, t8.2)).bind fun d =>
 some ((d.1, d.2.1, d.2.2.1), d.2.2.2)
def F_spec_l9Draw : Fn := ⟨[.ptr cL1Cur false, .val false cNI false], [.val true cVtab true], fun a => spec_l9Draw a.1 a.2⟩
def a_spec_l9Draw : List (Nat × LoopAnn) := [(0, ⟨⟨[(6, false, [dI])], [(1, .box [.dat (.sl (.one (.int .u8))), dI, dI]), (265216, .box [.own 1000000000, .own 1000000001]), (1000000000, .root cVrow true), (1000000001, .root cNI true)]⟩,
 ⟨[], [(1, .box [.dat (.sl (.one (.int .u8))), dI, dI]), (265216, .box [.own 1000000300, .own 1000000301]), (1000000300, .root cVrow true), (1000000301, .root cNI true)]⟩, none⟩)]
theorem m_spec_l9Draw : Meets Tryz.prog 184 F_spec_l9Draw := mkM g_299 184 Tryz.f184 a_spec_l9Draw F_spec_l9Draw Tryz.func184 (by kernel_rfl) (by kernel_rfl) (by kernel_rfl)
def fns_184 : List (FuncId × Fn) := (184, F_spec_l9Draw) :: fns_299
theorem g_184 : Good Tryz.prog ⟨tis, fns_184, [], false⟩ := g_299.cons m_spec_l9Draw
def spec_l8Copy (l0 : List Fent) : Option (List Fent) :=
 (app ([] : List Fent) l0).bind fun zs5 =>
 some zs5
def F_spec_l8Copy : Fn := ⟨[.val false (.one (.sl cFent)) false], [.val false (.one (.sl cFent)) true], fun a => spec_l8Copy a⟩
theorem m_spec_l8Copy : Meets Tryz.prog 211 F_spec_l8Copy := mkM g_184 211 Tryz.f211 [] F_spec_l8Copy Tryz.func211 (by kernel_rfl) (by kernel_rfl) (by kernel_rfl)
def fns_211 : List (FuncId × Fn) := (211, F_spec_l8Copy) :: fns_184
theorem g_211 : Good Tryz.prog ⟨tis, fns_211, [], false⟩ := g_184.cons m_spec_l8Copy
def spec_l8Ent (e0 : Fent) : Option Bool :=
 (spec_l1In e0.1 1 99).bind fun t5 =>
 (cond t5
 ((spec_l1In e0.2.1 1 9999).bind fun t9 =>
 some t9)
 (some false)).bind fun t10 =>
 (cond t10
 ((spec_l1In e0.2.2.1 0 7).bind fun t14 =>
 some t14)
 (some false)).bind fun t15 =>
 (cond t15
 ((spec_l1In e0.2.2.2.1 0 4).bind fun t19 =>
 some t19)
 (some false)).bind fun t20 =>
 (cond t20
 ((cond (!e0.2.2.2.2) (some true) (some (e0.2.2.2.1 == 0))).bind fun t29 =>
 some t29)
 (some false)).bind fun t30 =>
 some t30
def F_spec_l8Ent : Fn := ⟨[.val true cFent false], [.val false cNB true], fun a => spec_l8Ent a⟩
theorem m_spec_l8Ent : Meets Tryz.prog 301 F_spec_l8Ent := mkM g_211 301 Tryz.f301 [] F_spec_l8Ent Tryz.func301 (by kernel_rfl) (by kernel_rfl) (by kernel_rfl)
def fns_301 : List (FuncId × Fn) := (301, F_spec_l8Ent) :: fns_211
theorem g_301 : Good Tryz.prog ⟨tis, fns_301, [], false⟩ := g_211.cons m_spec_l8Ent
def spec_l8Ahead (e0 : Fent) (tag1 : Int) (mac2 : Int) : Option Bool :=
 cond (e0.1 != tag1) (some (decide (e0.1 < tag1))) (some (decide (e0.2.1 < mac2)))
def F_spec_l8Ahead : Fn := ⟨[.val true cFent false, .val false cNI false, .val false cNI false], [.val false cNB true], fun a => spec_l8Ahead a.1 a.2.1 a.2.2⟩
theorem m_spec_l8Ahead : Meets Tryz.prog 310 F_spec_l8Ahead := mkM g_301 310 Tryz.f310 [] F_spec_l8Ahead Tryz.func310 (by kernel_rfl) (by kernel_rfl) (by kernel_rfl)
def fns_310 : List (FuncId × Fn) := (310, F_spec_l8Ahead) :: fns_301
theorem g_310 : Good Tryz.prog ⟨tis, fns_310, [], false⟩ := g_301.cons m_spec_l8Ahead
def spec_FdbOk_l0 (l0 : List Fent) (i3 : Int) : Option (Int ⊕ (Unit ⊕ Bool)) :=
 cond (decide (i3 < (l0.length : Int)))
 ((at? l0 i3).bind fun x12 =>
 (spec_l8Ent x12).bind fun t14 =>
 (cond (!t14)
 (some true)
 ((cond (decide (i3 > 0))
 ((at? l0 (w64 (i3 - 1))).bind fun x23 =>
 (at? l0 i3).bind fun x27 =>
 (at? l0 i3).bind fun x32 =>
 (spec_l8Ahead x23 x27.1 x32.2.1).bind fun t35 =>
 some (!t35))
 (some false)).bind fun t37 =>
 some t37)).bind fun t38 =>
 cond t38 (some (.inr (.inr false))) (some (.inl (w64 (i3 + 1)))))
 (some (.inr (.inl ())))
def spec_FdbOk (l0 : List Fent) : Option Bool :=
 (loop (fun z => spec_FdbOk_l0 l0 z) 0).bind (Sum.elim (fun d =>
 let t2 := decide ((l0.length : Int) ≤ 12)
 some t2) (fun r => some r))
def F_spec_FdbOk : Fn := ⟨[.val false (.one (.sl cFent)) false], [.val false cNB true], fun a => spec_FdbOk a⟩
def a_spec_FdbOk : List (Nat × LoopAnn) := [(0, ⟨⟨(3, false, [dI]) :: us 17 21 [], []⟩,
 ⟨[], []⟩, some ⟨[(2, false, [dB])], []⟩⟩)]
theorem m_spec_FdbOk : Meets Tryz.prog 214 F_spec_FdbOk := mkM g_310 214 Tryz.f214 a_spec_FdbOk F_spec_FdbOk Tryz.func214 (by kernel_rfl) (by kernel_rfl) (by kernel_rfl)
def fns_214 : List (FuncId × Fn) := (214, F_spec_FdbOk) :: fns_310
theorem g_214 : Good Tryz.prog ⟨tis, fns_214, [], false⟩ := g_310.cons m_spec_FdbOk
def spec_l8At_l0 (l0 : List Fent) (tag1 : Int) (mac2 : Int) (i7 : Int) : Option (Int ⊕ (Unit ⊕ Int)) :=
 cond (decide (i7 < (l0.length : Int)))
 ((at? l0 i7).bind fun x16 =>
 (cond (x16.1 == tag1)
 ((at? l0 i7).bind fun x24 =>
 some (x24.2.1 == mac2))
 (some false)).bind fun t29 =>
 cond t29 (some (.inr (.inr i7))) (some (.inl (w64 (i7 + 1)))))
 (some (.inr (.inl ())))
def spec_l8At (l0 : List Fent) (tag1 : Int) (mac2 : Int) : Option Int :=
 (loop (fun z => spec_l8At_l0 l0 tag1 mac2 z) 0).bind (Sum.elim (fun d =>
 some (-1)) (fun r => some r))
def F_spec_l8At : Fn := ⟨[.val false (.one (.sl cFent)) false, .val false cNI false, .val false cNI false], [.val false cNI true], fun a => spec_l8At a.1 a.2.1 a.2.2⟩
def a_spec_l8At : List (Nat × LoopAnn) := [(0, ⟨⟨(7, false, [dI]) :: us 22 7 [], []⟩,
 ⟨[], []⟩, some ⟨[(6, false, [dI])], []⟩⟩)]
theorem m_spec_l8At : Meets Tryz.prog 300 F_spec_l8At := mkM g_214 300 Tryz.f300 a_spec_l8At F_spec_l8At Tryz.func300 (by kernel_rfl) (by kernel_rfl) (by kernel_rfl)
def fns_300 : List (FuncId × Fn) := (300, F_spec_l8At) :: fns_214
theorem g_300 : Good Tryz.prog ⟨tis, fns_300, [], false⟩ := g_214.cons m_spec_l8At
def spec_l8Put_l0 (p0 : List Fent) (i1 : Fent) (t6 : Bool) (t7 : Int) (t5 : List Fent) : Option ((Bool × Int × List Fent) ⊕ (Bool × List Fent)) :=
 cond (decide (t7 < (p0.length : Int)))
 ((cond (!t6)
 ((at? p0 t7).bind fun x20 =>
 (spec_l8Ahead x20 i1.1 i1.2.1).bind fun t26 =>
 some (!t26))
 (some false)).bind fun t28 =>
 cond t28
 ((app t5 [i1]).bind fun zs32 =>
 (at? p0 t7).bind fun x35 =>
 (cond (x35.1 != i1.1)
 (some true)
 ((at? p0 t7).bind fun x44 =>
 some (x44.2.1 != i1.2.1))).bind fun t50 =>
 cond t50
 ((at? p0 t7).bind fun x54 =>
 (app zs32 [x54]).bind fun zs57 =>
 some (.inl (true, w64 (t7 + 1), zs57)))
 (some (.inl (true, w64 (t7 + 1), zs32))))
 ((at? p0 t7).bind fun x35_1 =>
 (cond (x35_1.1 != i1.1)
 (some true)
 ((at? p0 t7).bind fun x44_1 =>
 some (x44_1.2.1 != i1.2.1))).bind fun t50_1 =>
 cond t50_1
 ((at? p0 t7).bind fun x54_1 =>
 (app t5 [x54_1]).bind fun zs57_1 =>
 some (.inl (t6, w64 (t7 + 1), zs57_1)))
 (some (.inl (t6, w64 (t7 + 1), t5)))))
 (some (.inr (t6, t5)))
def spec_l8Put (p0 : List Fent) (i1 : Fent) : Option (List Fent) :=
 (loop (fun z => spec_l8Put_l0 p0 i1 z.1 z.2.1 z.2.2) (false, 0, ([] : List Fent))).bind fun d =>
 cond (!d.1)
 ((app d.2 [i1]).bind fun zs63 =>
 some zs63)
 (some d.2)
def F_spec_l8Put : Fn := ⟨[.val false (.one (.sl cFent)) false, .val true cFent false], [.val false (.one (.sl cFent)) true], fun a => spec_l8Put a.1 a.2⟩
def a_spec_l8Put : List (Nat × LoopAnn) := [(0, ⟨⟨(5, false, [.own 1000000000]) :: (6, false, [dB]) :: (7, false, [dI]) :: us 18 10 (us 42 8 []), [(1000000000, .root cFent true)]⟩,
 ⟨[(5, false, [.own 1000000300]), (6, false, [dB])], [(1000000300, .root cFent true)]⟩, none⟩)]
theorem m_spec_l8Put : Meets Tryz.prog 302 F_spec_l8Put := mkM g_300 302 Tryz.f302 a_spec_l8Put F_spec_l8Put Tryz.func302 (by kernel_rfl) (by kernel_rfl) (by kernel_rfl)
def fns_302 : List (FuncId × Fn) := (302, F_spec_l8Put) :: fns_300
theorem g_302 : Good Tryz.prog ⟨tis, fns_302, [], false⟩ := g_300.cons m_spec_l8Put
def spec_Learn (l0 : List Fent) (tag1 : Int) (mac2 : Int) (port3 : Int) : Option (List Fent) :=
 (spec_l8At l0 tag1 mac2).bind fun t18 =>
 (spec_FdbOk l0).bind fun t20 =>
 (cond (!t20)
 (some true)
 ((spec_l8Ent (tag1, mac2, port3, 0, false)).bind fun t24 =>
 some (!t24))).bind fun t26 =>
 (cond t26
 (some true)
 ((cond (decide (t18 ≥ 0))
 ((at? l0 t18).bind fun x33 =>
 some x33.2.2.2.2)
 (some false)).bind fun t36 =>
 some t36)).bind fun t37 =>
 (cond t37
 (some true)
 ((cond (decide (t18 < 0)) (some (decide ((l0.length : Int) ≥ 12))) (some false)).bind fun t45 =>
 some t45)).bind fun t46 =>
 cond t46
 ((spec_l8Copy l0).bind fun t48 =>
 some t48)
 ((spec_l8Put l0 (tag1, mac2, port3, 0, false)).bind fun t51 =>
 some t51)
def F_spec_Learn : Fn := ⟨[.val false (.one (.sl cFent)) false, .val false cNI false, .val false cNI false, .val false cNI false], [.val false (.one (.sl cFent)) true], fun a => spec_Learn a.1 a.2.1 a.2.2.1 a.2.2.2⟩
theorem m_spec_Learn : Meets Tryz.prog 185 F_spec_Learn := mkM g_302 185 Tryz.f185 [] F_spec_Learn Tryz.func185 (by kernel_rfl) (by kernel_rfl) (by kernel_rfl)
def fns_185 : List (FuncId × Fn) := (185, F_spec_Learn) :: fns_302
theorem g_185 : Good Tryz.prog ⟨tis, fns_185, [], false⟩ := g_302.cons m_spec_Learn
def spec_l6Mac (c0 : L1Cur) : Option (L1Cur × Int) :=
 (spec_l1Int c0 ([11, 12, 13, 14] : List Int)).bind fun t5 =>
 some t5
def F_spec_l6Mac : Fn := ⟨[.ptr cL1Cur false], [.val false cNI true], fun a => spec_l6Mac a⟩
theorem m_spec_l6Mac : Meets Tryz.prog 186 F_spec_l6Mac := mkM g_185 186 Tryz.f186 [] F_spec_l6Mac Tryz.func186 (by kernel_rfl) (by kernel_rfl) (by kernel_rfl)
def fns_186 : List (FuncId × Fn) := (186, F_spec_l6Mac) :: fns_185
theorem g_186 : Good Tryz.prog ⟨tis, fns_186, [], false⟩ := g_185.cons m_spec_l6Mac
def spec_SetStatic (l0 : List Fent) (tag1 : Int) (mac2 : Int) (port3 : Int) : Option ((List Fent) × Bool) :=
 (spec_FdbOk l0).bind fun t16 =>
 (cond (!t16)
 (some true)
 ((spec_l8Ent (tag1, mac2, port3, 0, true)).bind fun t20 =>
 some (!t20))).bind fun t22 =>
 (cond t22
 (some true)
 ((spec_l8At l0 tag1 mac2).bind fun t27 =>
 (cond (decide (t27 < 0)) (some (decide ((l0.length : Int) ≥ 12))) (some false)).bind fun t33 =>
 some t33)).bind fun t34 =>
 cond t34
 ((spec_l8Copy l0).bind fun t36 =>
 some (t36, false))
 ((spec_l8Put l0 (tag1, mac2, port3, 0, true)).bind fun t39 =>
 some (t39, true))
def F_spec_SetStatic : Fn := ⟨[.val false (.one (.sl cFent)) false, .val false cNI false, .val false cNI false, .val false cNI false], [.val false (.one (.sl cFent)) true, .val false cNB true], fun a => spec_SetStatic a.1 a.2.1 a.2.2.1 a.2.2.2⟩
theorem m_spec_SetStatic : Meets Tryz.prog 187 F_spec_SetStatic := mkM g_186 187 Tryz.f187 [] F_spec_SetStatic Tryz.func187 (by kernel_rfl) (by kernel_rfl) (by kernel_rfl)
def fns_187 : List (FuncId × Fn) := (187, F_spec_SetStatic) :: fns_186
theorem g_187 : Good Tryz.prog ⟨tis, fns_187, [], false⟩ := g_186.cons m_spec_SetStatic
def spec_l11Draw_l0 (t7 : L1Cur × Int) (t5 : Int) (b0 : List Int) (b1 : Int) (b2 : Int) (b0_1 : Int) (b1_1 : List UInt8) (b6 : Int) (b7 : Int) (b8 : Int) (b9 : Int) (b10 : Int) (b3 : List Fent) : Option ((Int × List Int × Int × Int × Int × List UInt8 × Int × Int × Int × Int × Int × List Fent) ⊕ (List Int × Int × Int × Int × List UInt8 × Int × Int × Int × Int × Int × List Fent)) :=
 cond (decide (t5 > 0))
 ((spec_l1Below (b0, b1, b2) 3).bind fun t35 =>
 (spec_l6Mac t35.1).bind fun t38 =>
 (spec_l1Below t38.1 (w64 (1 + t7.2))).bind fun t41 =>
 (spec_Learn b3 (w64 (1 + t35.2)) t38.2 t41.2).bind fun t42 =>
 some (.inl (w64 (t5 - 1), t41.1.1, t41.1.2.1, t41.1.2.2, b0_1, b1_1, b6, b7, b8, b9, b10, t42)))
 (some (.inr (b0, b1, b2, b0_1, b1_1, b6, b7, b8, b9, b10, b3)))
def spec_l11Draw (p0 : L1Cur) : Option (L1Cur × Bridge) :=
 (spec_l1Below p0 4).bind fun t7 =>
 (spec_l1Below t7.1 5).bind fun t10 =>
 (spec_BridgeNew (w64 (1 + t10.2)) (w64 (1 + t7.2))).bind fun t13 =>
 (spec_l1Str t10.1 ([[], [121, 97, 114, 100], [98, 49]] : List (List UInt8))).bind fun t16 =>
 (spec_l10Draw t16.1 (w64 (1 + t7.2))).bind fun t20 =>
 (spec_l9Draw t20.1 (w64 (1 + t7.2))).bind fun t24 =>
 (spec_l1Below t24.1 6).bind fun t27 =>
 (loop (fun z => spec_l11Draw_l0 t7 z.1 z.2.1 z.2.2.1 z.2.2.2.1 z.2.2.2.2.1 z.2.2.2.2.2.1 z.2.2.2.2.2.2.1 z.2.2.2.2.2.2.2.1 z.2.2.2.2.2.2.2.2.1 z.2.2.2.2.2.2.2.2.2.1 z.2.2.2.2.2.2.2.2.2.2.1 z.2.2.2.2.2.2.2.2.2.2.2) (t27.2, t27.1.1, t27.1.2.1, t27.1.2.2, t13.1, t16.2, t13.2.2.2.2.2.2.1, t13.2.2.2.2.2.2.2.1, t13.2.2.2.2.2.2.2.2.1, t13.2.2.2.2.2.2.2.2.2.1, t13.2.2.2.2.2.2.2.2.2.2, t13.2.2.2.1)).bind fun d =>
 (spec_l1Once (d.1, d.2.1, d.2.2.1) 3).bind fun t45 =>
 cond t45.2
 ((spec_l6Mac t45.1).bind fun t50 =>
 (spec_l1Below t50.1 (w64 (1 + t7.2))).bind fun t53 =>
 (spec_SetStatic d.2.2.2.2.2.2.2.2.2.2 1 t50.2 t53.2).bind fun t54 =>
 (spec_l1Below t53.1 5).bind fun t59 =>
 (spec_l1Int t59.1 ([0, 1, 5, 1000000] : List Int)).bind fun t63 =>
 some (t63.1, (d.2.2.2.1, d.2.2.2.2.1, t20.2, t54.1, t24.2.1, t24.2.2, t59.2, d.2.2.2.2.2.2.1, d.2.2.2.2.2.2.2.1, d.2.2.2.2.2.2.2.2.1, t63.2)))
 ((spec_l1Below t45.1 5).bind fun t59_1 =>
 (spec_l1Int t59_1.1 ([0, 1, 5, 1000000] : List Int)).bind fun t63_1 =>
 some (t63_1.1, (d.2.2.2.1, d.2.2.2.2.1, t20.2, d.2.2.2.2.2.2.2.2.2.2, t24.2.1, t24.2.2, t59_1.2, d.2.2.2.2.2.2.1, d.2.2.2.2.2.2.2.1, d.2.2.2.2.2.2.2.2.1, t63_1.2)))
def F_spec_l11Draw : Fn := ⟨[.ptr cL1Cur false], [.val true cBridge true], fun a => spec_l11Draw a⟩
def a_spec_l11Draw : List (Nat × LoopAnn) := [(0, ⟨⟨[(5, false, [dI])], [(1, .box [.dat (.sl (.one (.int .u8))), dI, dI]), (530432, .box [dI, dS, .same 1051712, .own 1000000000, .same 1313856, .same 1313857, dI, dI, dI, dI, dI]), (1000000000, .root cFent true)]⟩,
 ⟨[], [(1, .box [.dat (.sl (.one (.int .u8))), dI, dI]), (530432, .box [dI, dS, .same 1051712, .own 1000000300, .same 1313856, .same 1313857, dI, dI, dI, dI, dI]), (1000000300, .root cFent true)]⟩, none⟩)]
theorem m_spec_l11Draw : Meets Tryz.prog 78 F_spec_l11Draw := mkM g_187 78 Tryz.f78 a_spec_l11Draw F_spec_l11Draw Tryz.func78 (by kernel_rfl) (by kernel_rfl) (by kernel_rfl)
def fns_78 : List (FuncId × Fn) := (78, F_spec_l11Draw) :: fns_187
theorem g_78 : Good Tryz.prog ⟨tis, fns_78, [], false⟩ := g_187.cons m_spec_l11Draw
def spec_DrawBridge (code0 : List Int) : Option (Bridge × Int) :=
 (spec_l1New code0).bind fun t7 =>
 (spec_l11Draw t7).bind fun t9 =>
 (spec_l1Below t9.1 (t9.2.2.2.1.length : Int)).bind fun t15 =>
 some (t9.2, t15.2)
def F_spec_DrawBridge : Fn := ⟨[.val false cNY false], [.val true cBridge true, .val false cNI true], fun a => spec_DrawBridge a⟩
theorem m_spec_DrawBridge : Meets Tryz.prog 34 F_spec_DrawBridge := mkM g_78 34 Tryz.f34 [] F_spec_DrawBridge Tryz.func34 (by kernel_rfl) (by kernel_rfl) (by kernel_rfl)
def fns_34 : List (FuncId × Fn) := (34, F_spec_DrawBridge) :: fns_78
theorem g_34 : Good Tryz.prog ⟨tis, fns_34, [], false⟩ := g_78.cons m_spec_DrawBridge
def impl_copyFdb (l0 : List Fent) : Option (List Fent) :=
 (app [] l0).bind fun zs4 =>
 some zs4
def F_impl_copyFdb : Fn := ⟨[.val false (.one (.sl cFent)) false], [.val false (.one (.sl cFent)) true], fun a => impl_copyFdb a⟩
theorem m_impl_copyFdb : Meets Tryz.prog 192 F_impl_copyFdb := mkM g_34 192 Tryz.f192 [] F_impl_copyFdb Tryz.func192 (by kernel_rfl) (by kernel_rfl) (by kernel_rfl)
def fns_192 : List (FuncId × Fn) := (192, F_impl_copyFdb) :: fns_34
theorem g_192 : Good Tryz.prog ⟨tis, fns_192, [], false⟩ := g_34.cons m_impl_copyFdb
def impl_copyInts (l0 : List Int) : Option (List Int) :=
 (app [] l0).bind fun zs4 =>
 some zs4
def F_impl_copyInts : Fn := ⟨[.val false cNN false], [.val false cNN true], fun a => impl_copyInts a⟩
theorem m_impl_copyInts : Meets Tryz.prog 82 F_impl_copyInts := mkM g_192 82 Tryz.f82 [] F_impl_copyInts Tryz.func82 (by kernel_rfl) (by kernel_rfl) (by kernel_rfl)
def fns_82 : List (FuncId × Fn) := (82, F_impl_copyInts) :: fns_192
theorem g_82 : Good Tryz.prog ⟨tis, fns_82, [], false⟩ := g_192.cons m_impl_copyInts
def impl_copyVtab (v0 : Vtab) : Option Vtab :=
 (app [] v0.1).bind fun zs5 =>
 (impl_copyInts v0.2).bind fun t8 =>
 some (zs5, t8)
def F_impl_copyVtab : Fn := ⟨[.val true cVtab false], [.val true cVtab true], fun a => impl_copyVtab a⟩
theorem m_impl_copyVtab : Meets Tryz.prog 193 F_impl_copyVtab := mkM g_82 193 Tryz.f193 [] F_impl_copyVtab Tryz.func193 (by kernel_rfl) (by kernel_rfl) (by kernel_rfl)
def fns_193 : List (FuncId × Fn) := (193, F_impl_copyVtab) :: fns_82
theorem g_193 : Good Tryz.prog ⟨tis, fns_193, [], false⟩ := g_82.cons m_impl_copyVtab
def impl_copyBridge (b0 : Bridge) : Option Bridge :=
 (app [] b0.2.2.1).bind fun zs5 =>
 (impl_copyFdb b0.2.2.2.1).bind fun t9 =>
 (impl_copyVtab (b0.2.2.2.2.1, b0.2.2.2.2.2.1)).bind fun t12 =>
 some (b0.1, b0.2.1, zs5, t9, t12.1, t12.2, b0.2.2.2.2.2.2.1, b0.2.2.2.2.2.2.2.1, b0.2.2.2.2.2.2.2.2.1, b0.2.2.2.2.2.2.2.2.2.1, b0.2.2.2.2.2.2.2.2.2.2)
def F_impl_copyBridge : Fn := ⟨[.val true cBridge false], [.val true cBridge true], fun a => impl_copyBridge a⟩
theorem m_impl_copyBridge : Meets Tryz.prog 80 F_impl_copyBridge := mkM g_193 80 Tryz.f80 [] F_impl_copyBridge Tryz.func80 (by kernel_rfl) (by kernel_rfl) (by kernel_rfl)
def fns_80 : List (FuncId × Fn) := (80, F_impl_copyBridge) :: fns_193
theorem g_80 : Good Tryz.prog ⟨tis, fns_80, [], false⟩ := g_193.cons m_impl_copyBridge
def impl_AgentNew (b0 : Bridge) (word1 : List UInt8) : Option Agent :=
 (impl_BridgeOk b0).bind fun t6 =>
 (cond (!t6) (some true) (some (decide ((word1.length : Int) > 20)))).bind fun t12 =>
 cond t12
 (some (0, [], [], [], [], [], 0, 0, 0, 0, 0, [], [], 0, 0))
 ((impl_copyBridge b0).bind fun t15 =>
 some (t15.1, t15.2.1, t15.2.2.1, t15.2.2.2.1, t15.2.2.2.2.1, t15.2.2.2.2.2.1, t15.2.2.2.2.2.2.1, t15.2.2.2.2.2.2.2.1, t15.2.2.2.2.2.2.2.2.1, t15.2.2.2.2.2.2.2.2.2.1, t15.2.2.2.2.2.2.2.2.2.2, word1, [], 0, 0))
def F_impl_AgentNew : Fn := ⟨[.val true cBridge false, .val false cNS false], [.val true cAgent true], fun a => impl_AgentNew a.1 a.2⟩
theorem m_impl_AgentNew : Meets Tryz.prog 35 F_impl_AgentNew := mkM g_80 35 Tryz.f35 [] F_impl_AgentNew Tryz.func35 (by kernel_rfl) (by kernel_rfl) (by kernel_rfl)
def fns_35 : List (FuncId × Fn) := (35, F_impl_AgentNew) :: fns_80
theorem g_35 : Good Tryz.prog ⟨tis, fns_35, [], false⟩ := g_80.cons m_impl_AgentNew
def impl_copyBytes (b0 : List Int) : Option (List Int) :=
 (app [] b0).bind fun zs4 =>
 some zs4
def F_impl_copyBytes : Fn := ⟨[.val false cNY false], [.val false cNY true], fun a => impl_copyBytes a⟩
theorem m_impl_copyBytes : Meets Tryz.prog 111 F_impl_copyBytes := mkM g_35 111 Tryz.f111 [] F_impl_copyBytes Tryz.func111 (by kernel_rfl) (by kernel_rfl) (by kernel_rfl)
def fns_111 : List (FuncId × Fn) := (111, F_impl_copyBytes) :: fns_35
theorem g_111 : Good Tryz.prog ⟨tis, fns_111, [], false⟩ := g_35.cons m_impl_copyBytes
def impl_copyVal (v0 : Val) : Option Val :=
 (impl_copyInts v0.2.2.2).bind fun t5 =>
 some (v0.1, v0.2.1, v0.2.2.1, t5)
def F_impl_copyVal : Fn := ⟨[.val true cVal false], [.val true cVal true], fun a => impl_copyVal a⟩
theorem m_impl_copyVal : Meets Tryz.prog 197 F_impl_copyVal := mkM g_111 197 Tryz.f197 [] F_impl_copyVal Tryz.func197 (by kernel_rfl) (by kernel_rfl) (by kernel_rfl)
def fns_197 : List (FuncId × Fn) := (197, F_impl_copyVal) :: fns_111
theorem g_197 : Good Tryz.prog ⟨tis, fns_197, [], false⟩ := g_111.cons m_impl_copyVal
def impl_copyBinds_l0 (l0 : List Bind) (t8 : Int) (out3 : List Bind) : Option ((Int × List Bind) ⊕ (List Bind)) :=
 cond (decide (t8 < (l0.length : Int)))
 ((at? l0 t8).bind fun x10 =>
 (impl_copyInts x10.1).bind fun t15 =>
 (impl_copyVal x10.2).bind fun t18 =>
 (app out3 [(t15, t18.1, t18.2.1, t18.2.2.1, t18.2.2.2)]).bind fun zs21 =>
 some (.inl (w64 (t8 + 1), zs21)))
 (some (.inr out3))
def impl_copyBinds (l0 : List Bind) : Option (List Bind) :=
 (loop (fun z => impl_copyBinds_l0 l0 z.1 z.2) (0, [])).bind fun d =>
 some d
def F_impl_copyBinds : Fn := ⟨[.val false (.one (.sl cBind)) false], [.val false (.one (.sl cBind)) true], fun a => impl_copyBinds a⟩
def a_impl_copyBinds : List (Nat × LoopAnn) := [(0, ⟨⟨[(3, false, [.own 1000000000]), (8, false, [dI])], [(1000000000, .root cBind true)]⟩,
 ⟨[(3, false, [.own 1000000300])], [(1000000300, .root cBind true)]⟩, none⟩)]
theorem m_impl_copyBinds : Meets Tryz.prog 84 F_impl_copyBinds := mkM g_197 84 Tryz.f84 a_impl_copyBinds F_impl_copyBinds Tryz.func84 (by kernel_rfl) (by kernel_rfl) (by kernel_rfl)
def fns_84 : List (FuncId × Fn) := (84, F_impl_copyBinds) :: fns_197
theorem g_84 : Good Tryz.prog ⟨tis, fns_84, [], false⟩ := g_197.cons m_impl_copyBinds
def impl_copyPdu (p0 : Pdu) : Option Pdu :=
 (impl_copyBinds p0.2.2.2.2).bind fun t5 =>
 some (p0.1, p0.2.1, p0.2.2.1, p0.2.2.2.1, t5)
def F_impl_copyPdu : Fn := ⟨[.val true cPdu false], [.val true cPdu true], fun a => impl_copyPdu a⟩
theorem m_impl_copyPdu : Meets Tryz.prog 232 F_impl_copyPdu := mkM g_84 232 Tryz.f232 [] F_impl_copyPdu Tryz.func232 (by kernel_rfl) (by kernel_rfl) (by kernel_rfl)
def fns_232 : List (FuncId × Fn) := (232, F_impl_copyPdu) :: fns_84
theorem g_232 : Good Tryz.prog ⟨tis, fns_232, [], false⟩ := g_84.cons m_impl_copyPdu
def impl_copyAgent_l0 (a0 : Agent) (t13 : Int) (jobs3 : List Job) : Option ((Int × List Job) ⊕ (List Job)) :=
 cond (decide (t13 < (a0.2.2.2.2.2.2.2.2.2.2.2.2.1.length : Int)))
 ((at? a0.2.2.2.2.2.2.2.2.2.2.2.2.1 t13).bind fun x15 =>
 (impl_copyBytes x15.2.1).bind fun t19 =>
 (impl_copyPdu (x15.2.2.2.1, x15.2.2.2.2.1, x15.2.2.2.2.2.1, x15.2.2.2.2.2.2.1, x15.2.2.2.2.2.2.2.1)).bind fun t22 =>
 (impl_copyBridge (x15.2.2.2.2.2.2.2.2.1, x15.2.2.2.2.2.2.2.2.2.1, x15.2.2.2.2.2.2.2.2.2.2.1, x15.2.2.2.2.2.2.2.2.2.2.2.1, x15.2.2.2.2.2.2.2.2.2.2.2.2.1, x15.2.2.2.2.2.2.2.2.2.2.2.2.2.1, x15.2.2.2.2.2.2.2.2.2.2.2.2.2.2.1, x15.2.2.2.2.2.2.2.2.2.2.2.2.2.2.2.1, x15.2.2.2.2.2.2.2.2.2.2.2.2.2.2.2.2.1, x15.2.2.2.2.2.2.2.2.2.2.2.2.2.2.2.2.2.1, x15.2.2.2.2.2.2.2.2.2.2.2.2.2.2.2.2.2.2.1)).bind fun t25 =>
 (app jobs3 [(x15.1, t19, x15.2.2.1, t22.1, t22.2.1, t22.2.2.1, t22.2.2.2.1, t22.2.2.2.2, t25.1, t25.2.1, t25.2.2.1, t25.2.2.2.1, t25.2.2.2.2.1, t25.2.2.2.2.2.1, t25.2.2.2.2.2.2.1, t25.2.2.2.2.2.2.2.1, t25.2.2.2.2.2.2.2.2.1, t25.2.2.2.2.2.2.2.2.2.1, t25.2.2.2.2.2.2.2.2.2.2, x15.2.2.2.2.2.2.2.2.2.2.2.2.2.2.2.2.2.2.2.1, x15.2.2.2.2.2.2.2.2.2.2.2.2.2.2.2.2.2.2.2.2)]).bind fun zs32 =>
 some (.inl (w64 (t13 + 1), zs32)))
 (some (.inr jobs3))
def impl_copyAgent (a0 : Agent) : Option Agent :=
 (impl_copyBridge (a0.1, a0.2.1, a0.2.2.1, a0.2.2.2.1, a0.2.2.2.2.1, a0.2.2.2.2.2.1, a0.2.2.2.2.2.2.1, a0.2.2.2.2.2.2.2.1, a0.2.2.2.2.2.2.2.2.1, a0.2.2.2.2.2.2.2.2.2.1, a0.2.2.2.2.2.2.2.2.2.2.1)).bind fun t8 =>
 (loop (fun z => impl_copyAgent_l0 a0 z.1 z.2) (0, [])).bind fun d =>
 some (t8.1, t8.2.1, t8.2.2.1, t8.2.2.2.1, t8.2.2.2.2.1, t8.2.2.2.2.2.1, t8.2.2.2.2.2.2.1, t8.2.2.2.2.2.2.2.1, t8.2.2.2.2.2.2.2.2.1, t8.2.2.2.2.2.2.2.2.2.1, t8.2.2.2.2.2.2.2.2.2.2, a0.2.2.2.2.2.2.2.2.2.2.2.1, d, a0.2.2.2.2.2.2.2.2.2.2.2.2.2.1, a0.2.2.2.2.2.2.2.2.2.2.2.2.2.2)
def F_impl_copyAgent : Fn := ⟨[.val true cAgent false], [.val true cAgent true], fun a => impl_copyAgent a⟩
def a_impl_copyAgent : List (Nat × LoopAnn) := [(0, ⟨⟨[(3, false, [.own 1000000000]), (13, false, [dI])], [(1000000000, .root cJob true)]⟩,
 ⟨[(3, false, [.own 1000000300])], [(1000000300, .root cJob true)]⟩, none⟩)]
theorem m_impl_copyAgent : Meets Tryz.prog 108 F_impl_copyAgent := mkM g_232 108 Tryz.f108 a_impl_copyAgent F_impl_copyAgent Tryz.func108 (by kernel_rfl) (by kernel_rfl) (by kernel_rfl)
def fns_108 : List (FuncId × Fn) := (108, F_impl_copyAgent) :: fns_232
theorem g_108 : Good Tryz.prog ⟨tis, fns_108, [], false⟩ := g_232.cons m_impl_copyAgent
def impl_OidOk_l0 (o0 : List Int) (t7 : Int) : Option (Int ⊕ (Unit ⊕ Bool)) :=
 cond (decide (t7 < (o0.length : Int)))
 ((at? o0 t7).bind fun x9 =>
 (impl_in x9 0 100000).bind fun t12 =>
 cond (!t12) (some (.inr (.inr false))) (some (.inl (w64 (t7 + 1)))))
 (some (.inr (.inl ())))
def impl_OidOk (o0 : List Int) : Option Bool :=
 (loop (fun z => impl_OidOk_l0 o0 z) 0).bind (Sum.elim (fun d =>
 (impl_in (o0.length : Int) 1 10).bind fun t17 =>
 some t17) (fun r => some r))
def F_impl_OidOk : Fn := ⟨[.val false cNN false], [.val false cNB true], fun a => impl_OidOk a⟩
def a_impl_OidOk : List (Nat × LoopAnn) := [(0, ⟨⟨[(7, false, [dI])], []⟩,
 ⟨[], []⟩, some ⟨[(2, false, [dB])], []⟩⟩)]
theorem m_impl_OidOk : Meets Tryz.prog 194 F_impl_OidOk := mkM g_108 194 Tryz.f194 a_impl_OidOk F_impl_OidOk Tryz.func194 (by kernel_rfl) (by kernel_rfl) (by kernel_rfl)
def fns_194 : List (FuncId × Fn) := (194, F_impl_OidOk) :: fns_108
theorem g_194 : Good Tryz.prog ⟨tis, fns_194, [], false⟩ := g_108.cons m_impl_OidOk
def impl_SameVal (a0 : Val) (b1 : Val) : Option Bool :=
 (cond (a0.1 == b1.1) (some (a0.2.1 == b1.2.1)) (some false)).bind fun t16 =>
 (cond t16 (some (a0.2.2.1 == b1.2.2.1)) (some false)).bind fun t23 =>
 (cond t23
 ((impl_SameOid a0.2.2.2 b1.2.2.2).bind fun t29 =>
 some t29)
 (some false)).bind fun t30 =>
 some t30
def F_impl_SameVal : Fn := ⟨[.val true cVal false, .val true cVal false], [.val false cNB true], fun a => impl_SameVal a.1 a.2⟩
theorem m_impl_SameVal : Meets Tryz.prog 19 F_impl_SameVal := mkM g_194 19 Tryz.f19 [] F_impl_SameVal Tryz.func19 (by kernel_rfl) (by kernel_rfl) (by kernel_rfl)
def fns_19 : List (FuncId × Fn) := (19, F_impl_SameVal) :: fns_194
theorem g_19 : Good Tryz.prog ⟨tis, fns_19, [], false⟩ := g_194.cons m_impl_SameVal
def impl_isInt (n0 : Int) : Option Bool :=
 (impl_in n0 (-2147483648) 2147483647).bind fun t4 =>
 some t4
def F_impl_isInt : Fn := ⟨[.val false cNI false], [.val false cNB true], fun a => impl_isInt a⟩
theorem m_impl_isInt : Meets Tryz.prog 196 F_impl_isInt := mkM g_19 196 Tryz.f196 [] F_impl_isInt Tryz.func196 (by kernel_rfl) (by kernel_rfl) (by kernel_rfl)
def fns_196 : List (FuncId × Fn) := (196, F_impl_isInt) :: fns_19
theorem g_196 : Good Tryz.prog ⟨tis, fns_196, [], false⟩ := g_19.cons m_impl_isInt
def impl_ValOk (v0 : Val) : Option Bool :=
 cond (v0.1 == 2)
 ((impl_isInt v0.2.1).bind fun t17 =>
 (cond t17
 ((impl_SameVal v0 (v0.1, v0.2.1, [], [])).bind fun t43 =>
 some t43)
 (some false)).bind fun t44 =>
 some t44)
 (cond (v0.1 == 4)
 (let ok4 := decide ((v0.2.2.1.length : Int) ≤ 20)
 (cond ok4
 ((impl_SameVal v0 (v0.1, 0, v0.2.2.1, [])).bind fun t43_1 =>
 some t43_1)
 (some false)).bind fun t44_1 =>
 some t44_1)
 (cond (v0.1 == 6)
 ((impl_OidOk v0.2.2.2).bind fun t34 =>
 (cond t34
 ((impl_SameVal v0 (v0.1, 0, [], v0.2.2.2)).bind fun t43_2 =>
 some t43_2)
 (some false)).bind fun t44_2 =>
 some t44_2)
 (cond (v0.1 == 5)
 (cond (v0.1 == 5)
 (((impl_SameVal v0 (v0.1, 0, [], [])).bind fun t43_3 =>
 some t43_3).bind fun t44_3 =>
 some t44_3)
 (some false))
 (cond (v0.1 == 128)
 (cond (v0.1 == 128)
 (((impl_SameVal v0 (v0.1, 0, [], [])).bind fun t43_4 =>
 some t43_4).bind fun t44_4 =>
 some t44_4)
 (some false))
 (cond (v0.1 == 130)
 (((impl_SameVal v0 (v0.1, 0, [], [])).bind fun t43_5 =>
 some t43_5).bind fun t44_5 =>
 some t44_5)
 (some false))))))
def F_impl_ValOk : Fn := ⟨[.val true cVal false], [.val false cNB true], fun a => impl_ValOk a⟩
theorem m_impl_ValOk : Meets Tryz.prog 195 F_impl_ValOk := mkM g_196 195 Tryz.f195 [] F_impl_ValOk Tryz.func195 (by kernel_rfl) (by kernel_rfl) (by kernel_rfl)
def fns_195 : List (FuncId × Fn) := (195, F_impl_ValOk) :: fns_196
theorem g_195 : Good Tryz.prog ⟨tis, fns_195, [], false⟩ := g_196.cons m_impl_ValOk
def impl_PduOk_l1 (p0 : Pdu) (t35 : Int) : Option (Int ⊕ (Unit ⊕ Bool)) :=
 cond (decide (t35 < (p0.2.2.2.2.length : Int)))
 ((at? p0.2.2.2.2 t35).bind fun x38 =>
 (cond (decide (t35 ≥ 10))
 (some true)
 ((impl_OidOk x38.1).bind fun t45 =>
 some (!t45))).bind fun t47 =>
 (cond t47
 (some true)
 ((impl_ValOk x38.2).bind fun t51 =>
 some (!t51))).bind fun t53 =>
 cond t53 (some (.inr (.inr false))) (some (.inl (w64 (t35 + 1)))))
 (some (.inr (.inl ())))
def impl_PduOk_l1_1 (p0 : Pdu) (t35_1 : Int) : Option (Int ⊕ (Unit ⊕ Bool)) :=
 cond (decide (t35_1 < (p0.2.2.2.2.length : Int)))
 ((at? p0.2.2.2.2 t35_1).bind fun x38_1 =>
 (cond (decide (t35_1 ≥ 10))
 (some true)
 ((impl_OidOk x38_1.1).bind fun t45_1 =>
 some (!t45_1))).bind fun t47_1 =>
 (cond t47_1
 (some true)
 ((impl_ValOk x38_1.2).bind fun t51_1 =>
 some (!t51_1))).bind fun t53_1 =>
 cond t53_1 (some (.inr (.inr false))) (some (.inl (w64 (t35_1 + 1)))))
 (some (.inr (.inl ())))
def impl_PduOk_l1_2 (p0 : Pdu) (t35_2 : Int) : Option (Int ⊕ (Unit ⊕ Bool)) :=
 cond (decide (t35_2 < (p0.2.2.2.2.length : Int)))
 ((at? p0.2.2.2.2 t35_2).bind fun x38_2 =>
 (cond (decide (t35_2 ≥ 10))
 (some true)
 ((impl_OidOk x38_2.1).bind fun t45_2 =>
 some (!t45_2))).bind fun t47_2 =>
 (cond t47_2
 (some true)
 ((impl_ValOk x38_2.2).bind fun t51_2 =>
 some (!t51_2))).bind fun t53_2 =>
 cond t53_2 (some (.inr (.inr false))) (some (.inl (w64 (t35_2 + 1)))))
 (some (.inr (.inl ())))
def impl_PduOk_l1_3 (p0 : Pdu) (t35_3 : Int) : Option (Int ⊕ (Unit ⊕ Bool)) :=
 cond (decide (t35_3 < (p0.2.2.2.2.length : Int)))
 ((at? p0.2.2.2.2 t35_3).bind fun x38_3 =>
 (cond (decide (t35_3 ≥ 10))
 (some true)
 ((impl_OidOk x38_3.1).bind fun t45_3 =>
 some (!t45_3))).bind fun t47_3 =>
 (cond t47_3
 (some true)
 ((impl_ValOk x38_3.2).bind fun t51_3 =>
 some (!t51_3))).bind fun t53_3 =>
 cond t53_3 (some (.inr (.inr false))) (some (.inl (w64 (t35_3 + 1)))))
 (some (.inr (.inl ())))
def impl_PduOk_l1_4 (p0 : Pdu) (t35_4 : Int) : Option (Int ⊕ (Unit ⊕ Bool)) :=
 cond (decide (t35_4 < (p0.2.2.2.2.length : Int)))
 ((at? p0.2.2.2.2 t35_4).bind fun x38_4 =>
 (cond (decide (t35_4 ≥ 10))
 (some true)
 ((impl_OidOk x38_4.1).bind fun t45_4 =>
 some (!t45_4))).bind fun t47_4 =>
 (cond t47_4
 (some true)
 ((impl_ValOk x38_4.2).bind fun t51_4 =>
 some (!t51_4))).bind fun t53_4 =>
 cond t53_4 (some (.inr (.inr false))) (some (.inl (w64 (t35_4 + 1)))))
 (some (.inr (.inl ())))
def impl_PduOk_l1_5 (p0 : Pdu) (t35_5 : Int) : Option (Int ⊕ (Unit ⊕ Bool)) :=
 cond (decide (t35_5 < (p0.2.2.2.2.length : Int)))
 ((at? p0.2.2.2.2 t35_5).bind fun x38_5 =>
 (cond (decide (t35_5 ≥ 10))
 (some true)
 ((impl_OidOk x38_5.1).bind fun t45_5 =>
 some (!t45_5))).bind fun t47_5 =>
 (cond t47_5
 (some true)
 ((impl_ValOk x38_5.2).bind fun t51_5 =>
 some (!t51_5))).bind fun t53_5 =>
 cond t53_5 (some (.inr (.inr false))) (some (.inl (w64 (t35_5 + 1)))))
 (some (.inr (.inl ())))
def impl_PduOk_l1_6 (p0 : Pdu) (t35_6 : Int) : Option (Int ⊕ (Unit ⊕ Bool)) :=
 cond (decide (t35_6 < (p0.2.2.2.2.length : Int)))
 ((at? p0.2.2.2.2 t35_6).bind fun x38_6 =>
 (cond (decide (t35_6 ≥ 10))
 (some true)
 ((impl_OidOk x38_6.1).bind fun t45_6 =>
 some (!t45_6))).bind fun t47_6 =>
 (cond t47_6
 (some true)
 ((impl_ValOk x38_6.2).bind fun t51_6 =>
 some (!t51_6))).bind fun t53_6 =>
 cond t53_6 (some (.inr (.inr false))) (some (.inl (w64 (t35_6 + 1)))))
 (some (.inr (.inl ())))
def impl_PduOk_l1_7 (p0 : Pdu) (t35_7 : Int) : Option (Int ⊕ (Unit ⊕ Bool)) :=
 cond (decide (t35_7 < (p0.2.2.2.2.length : Int)))
 ((at? p0.2.2.2.2 t35_7).bind fun x38_7 =>
 (cond (decide (t35_7 ≥ 10))
 (some true)
 ((impl_OidOk x38_7.1).bind fun t45_7 =>
 some (!t45_7))).bind fun t47_7 =>
 (cond t47_7
 (some true)
 ((impl_ValOk x38_7.2).bind fun t51_7 =>
 some (!t51_7))).bind fun t53_7 =>
 cond t53_7 (some (.inr (.inr false))) (some (.inl (w64 (t35_7 + 1)))))
 (some (.inr (.inl ())))
def impl_PduOk_l1_8 (p0 : Pdu) (t35_8 : Int) : Option (Int ⊕ (Unit ⊕ Bool)) :=
 cond (decide (t35_8 < (p0.2.2.2.2.length : Int)))
 ((at? p0.2.2.2.2 t35_8).bind fun x38_8 =>
 (cond (decide (t35_8 ≥ 10))
 (some true)
 ((impl_OidOk x38_8.1).bind fun t45_8 =>
 some (!t45_8))).bind fun t47_8 =>
 (cond t47_8
 (some true)
 ((impl_ValOk x38_8.2).bind fun t51_8 =>
 some (!t51_8))).bind fun t53_8 =>
 cond t53_8 (some (.inr (.inr false))) (some (.inl (w64 (t35_8 + 1)))))
 (some (.inr (.inl ())))
def impl_PduOk (p0 : Pdu) : Option Bool :=
 cond (p0.1 == 160)
 (cond (p0.1 == 160)
 ((cond (p0.2.2.1 != 0) (some true) (some (p0.2.2.2.1 != 0))).bind fun t18 =>
 cond t18
 (some false)
 ((loop (fun z => impl_PduOk_l1 p0 z) 0).bind (Sum.elim (fun d =>
 (impl_isInt p0.2.1).bind fun t57 =>
 some t57) (fun r => some r))))
 (cond (p0.1 == 162)
 (cond (p0.1 == 162)
 ((impl_in p0.2.2.1 0 1000).bind fun t24 =>
 (cond (!t24)
 (some true)
 ((impl_in p0.2.2.2.1 0 1000).bind fun t29 =>
 some (!t29))).bind fun t31 =>
 cond t31
 (some false)
 ((loop (fun z => impl_PduOk_l1_1 p0 z) 0).bind (Sum.elim (fun d_1 =>
 (impl_isInt p0.2.1).bind fun t57_1 =>
 some t57_1) (fun r_1 => some r_1))))
 (some false))
 (cond (p0.1 == 165)
 ((impl_in p0.2.2.1 0 1000).bind fun t24_1 =>
 (cond (!t24_1)
 (some true)
 ((impl_in p0.2.2.2.1 0 1000).bind fun t29_1 =>
 some (!t29_1))).bind fun t31_1 =>
 cond t31_1
 (some false)
 ((loop (fun z => impl_PduOk_l1_2 p0 z) 0).bind (Sum.elim (fun d_2 =>
 (impl_isInt p0.2.1).bind fun t57_2 =>
 some t57_2) (fun r_2 => some r_2))))
 (some false))))
 (cond (p0.1 == 161)
 (cond (p0.1 == 161)
 ((cond (p0.2.2.1 != 0) (some true) (some (p0.2.2.2.1 != 0))).bind fun t18_1 =>
 cond t18_1
 (some false)
 ((loop (fun z => impl_PduOk_l1_3 p0 z) 0).bind (Sum.elim (fun d_3 =>
 (impl_isInt p0.2.1).bind fun t57_3 =>
 some t57_3) (fun r_3 => some r_3))))
 (cond (p0.1 == 162)
 (cond (p0.1 == 162)
 ((impl_in p0.2.2.1 0 1000).bind fun t24_2 =>
 (cond (!t24_2)
 (some true)
 ((impl_in p0.2.2.2.1 0 1000).bind fun t29_2 =>
 some (!t29_2))).bind fun t31_2 =>
 cond t31_2
 (some false)
 ((loop (fun z => impl_PduOk_l1_4 p0 z) 0).bind (Sum.elim (fun d_4 =>
 (impl_isInt p0.2.1).bind fun t57_4 =>
 some t57_4) (fun r_4 => some r_4))))
 (some false))
 (cond (p0.1 == 165)
 ((impl_in p0.2.2.1 0 1000).bind fun t24_3 =>
 (cond (!t24_3)
 (some true)
 ((impl_in p0.2.2.2.1 0 1000).bind fun t29_3 =>
 some (!t29_3))).bind fun t31_3 =>
 cond t31_3
 (some false)
 ((loop (fun z => impl_PduOk_l1_5 p0 z) 0).bind (Sum.elim (fun d_5 =>
 (impl_isInt p0.2.1).bind fun t57_5 =>
 some t57_5) (fun r_5 => some r_5))))
 (some false))))
 (cond (p0.1 == 163)
 ((cond (p0.2.2.1 != 0) (some true) (some (p0.2.2.2.1 != 0))).bind fun t18_2 =>
 cond t18_2
 (some false)
 ((loop (fun z => impl_PduOk_l1_6 p0 z) 0).bind (Sum.elim (fun d_6 =>
 (impl_isInt p0.2.1).bind fun t57_6 =>
 some t57_6) (fun r_6 => some r_6))))
 (cond (p0.1 == 162)
 (cond (p0.1 == 162)
 ((impl_in p0.2.2.1 0 1000).bind fun t24_4 =>
 (cond (!t24_4)
 (some true)
 ((impl_in p0.2.2.2.1 0 1000).bind fun t29_4 =>
 some (!t29_4))).bind fun t31_4 =>
 cond t31_4
 (some false)
 ((loop (fun z => impl_PduOk_l1_7 p0 z) 0).bind (Sum.elim (fun d_7 =>
 (impl_isInt p0.2.1).bind fun t57_7 =>
 some t57_7) (fun r_7 => some r_7))))
 (some false))
 (cond (p0.1 == 165)
 ((impl_in p0.2.2.1 0 1000).bind fun t24_5 =>
 (cond (!t24_5)
 (some true)
 ((impl_in p0.2.2.2.1 0 1000).bind fun t29_5 =>
 some (!t29_5))).bind fun t31_5 =>
 cond t31_5
 (some false)
 ((loop (fun z => impl_PduOk_l1_8 p0 z) 0).bind (Sum.elim (fun d_8 =>
 (impl_isInt p0.2.1).bind fun t57_8 =>
 some t57_8) (fun r_8 => some r_8))))
 (some false)))))
def F_impl_PduOk : Fn := ⟨[.val true cPdu false], [.val false cNB true], fun a => impl_PduOk a⟩
def a_impl_PduOk : List (Nat × LoopAnn) := [(1, ⟨⟨(35, false, [dI]) :: us 43 4 (us 49 4 []), []⟩,
 ⟨[], []⟩, some ⟨[(2, false, [dB])], []⟩⟩)]
theorem m_impl_PduOk : Meets Tryz.prog 81 F_impl_PduOk := mkM g_195 81 Tryz.f81 a_impl_PduOk F_impl_PduOk Tryz.func81 (by kernel_rfl) (by kernel_rfl) (by kernel_rfl)
def fns_81 : List (FuncId × Fn) := (81, F_impl_PduOk) :: fns_195
theorem g_81 : Good Tryz.prog ⟨tis, fns_81, [], false⟩ := g_195.cons m_impl_PduOk
def impl_jobOk (j0 : Job) : Option Bool :=
 (impl_in j0.2.2.1 0 2).bind fun t5 =>
 (cond (!t5)
 (some true)
 ((impl_in j0.2.2.2.2.2.2.2.2.2.2.2.2.2.2.2.2.2.2.2.1 0 (j0.2.2.2.2.2.2.2.1.length : Int)).bind fun t14 =>
 some (!t14))).bind fun t16 =>
 (cond t16
 (some true)
 ((impl_in j0.2.2.2.2.2.2.2.2.2.2.2.2.2.2.2.2.2.2.2.2 0 3).bind fun t20 =>
 some (!t20))).bind fun t22 =>
 cond t22
 (some false)
 ((cond (j0.2.2.1 == 0)
 (some true)
 ((impl_PduOk (j0.2.2.2.1, j0.2.2.2.2.1, j0.2.2.2.2.2.1, j0.2.2.2.2.2.2.1, j0.2.2.2.2.2.2.2.1)).bind fun t29 =>
 (cond t29 (some (j0.2.2.2.1 != 162)) (some false)).bind fun t35 =>
 (cond t35
 ((impl_BridgeOk (j0.2.2.2.2.2.2.2.2.1, j0.2.2.2.2.2.2.2.2.2.1, j0.2.2.2.2.2.2.2.2.2.2.1, j0.2.2.2.2.2.2.2.2.2.2.2.1, j0.2.2.2.2.2.2.2.2.2.2.2.2.1, j0.2.2.2.2.2.2.2.2.2.2.2.2.2.1, j0.2.2.2.2.2.2.2.2.2.2.2.2.2.2.1, j0.2.2.2.2.2.2.2.2.2.2.2.2.2.2.2.1, j0.2.2.2.2.2.2.2.2.2.2.2.2.2.2.2.2.1, j0.2.2.2.2.2.2.2.2.2.2.2.2.2.2.2.2.2.1, j0.2.2.2.2.2.2.2.2.2.2.2.2.2.2.2.2.2.2.1)).bind fun t39 =>
 some t39)
 (some false)).bind fun t40 =>
 some t40)).bind fun t41 =>
 some t41)
def F_impl_jobOk : Fn := ⟨[.val true cJob false], [.val false cNB true], fun a => impl_jobOk a⟩
theorem m_impl_jobOk : Meets Tryz.prog 233 F_impl_jobOk := mkM g_81 233 Tryz.f233 [] F_impl_jobOk Tryz.func233 (by kernel_rfl) (by kernel_rfl) (by kernel_rfl)
def fns_233 : List (FuncId × Fn) := (233, F_impl_jobOk) :: fns_81
theorem g_233 : Good Tryz.prog ⟨tis, fns_233, [], false⟩ := g_81.cons m_impl_jobOk
def impl_AgentOk_l0 (p0 : Agent) (t36 : Int) : Option (Int ⊕ (Unit ⊕ Bool)) :=
 cond (decide (t36 < (p0.2.2.2.2.2.2.2.2.2.2.2.2.1.length : Int)))
 ((at? p0.2.2.2.2.2.2.2.2.2.2.2.2.1 t36).bind fun x39 =>
 (impl_in x39.1 1 p0.2.2.2.2.2.2.2.2.2.2.2.2.2.2).bind fun t45 =>
 (cond (!t45)
 (some true)
 ((cond (decide (t36 > 0))
 ((at? p0.2.2.2.2.2.2.2.2.2.2.2.2.1 (w64 (t36 - 1))).bind fun x55 =>
 some (decide (x55.1 ≥ x39.1)))
 (some false)).bind fun t61 =>
 some t61)).bind fun t62 =>
 (cond t62
 (some true)
 ((impl_jobOk x39).bind fun t65 =>
 some (!t65))).bind fun t67 =>
 cond t67 (some (.inr (.inr false))) (some (.inl (w64 (t36 + 1)))))
 (some (.inr (.inl ())))
def impl_AgentOk (p0 : Agent) : Option Bool :=
 (impl_BridgeOk (p0.1, p0.2.1, p0.2.2.1, p0.2.2.2.1, p0.2.2.2.2.1, p0.2.2.2.2.2.1, p0.2.2.2.2.2.2.1, p0.2.2.2.2.2.2.2.1, p0.2.2.2.2.2.2.2.2.1, p0.2.2.2.2.2.2.2.2.2.1, p0.2.2.2.2.2.2.2.2.2.2.1)).bind fun t7 =>
 (cond (!t7)
 (some true)
 (some (decide ((p0.2.2.2.2.2.2.2.2.2.2.2.1.length : Int) > 20)))).bind fun t14 =>
 (cond t14
 (some true)
 (some (decide ((p0.2.2.2.2.2.2.2.2.2.2.2.2.1.length : Int) > 6)))).bind fun t20 =>
 (cond t20
 (some true)
 ((impl_isCount p0.2.2.2.2.2.2.2.2.2.2.2.2.2.1).bind fun t24 =>
 some (!t24))).bind fun t26 =>
 (cond t26
 (some true)
 ((impl_isCount p0.2.2.2.2.2.2.2.2.2.2.2.2.2.2).bind fun t30 =>
 some (!t30))).bind fun t32 =>
 cond t32
 (some false)
 ((loop (fun z => impl_AgentOk_l0 p0 z) 0).bind (Sum.elim (fun d =>
 some true) (fun r => some r)))
def F_impl_AgentOk : Fn := ⟨[.val true cAgent false], [.val false cNB true], fun a => impl_AgentOk a⟩
def a_impl_AgentOk : List (Nat × LoopAnn) := [(0, ⟨⟨(36, false, [dI]) :: us 48 14 (us 64 3 []), []⟩,
 ⟨[], []⟩, some ⟨[(2, false, [dB])], []⟩⟩)]
theorem m_impl_AgentOk : Meets Tryz.prog 109 F_impl_AgentOk := mkM g_233 109 Tryz.f109 a_impl_AgentOk F_impl_AgentOk Tryz.func109 (by kernel_rfl) (by kernel_rfl) (by kernel_rfl)
def fns_109 : List (FuncId × Fn) := (109, F_impl_AgentOk) :: fns_233
theorem g_109 : Good Tryz.prog ⟨tis, fns_109, [], false⟩ := g_233.cons m_impl_AgentOk
def impl_more (n0 : Int) : Option Int :=
 let t2 := min2 (w64 (n0 + 1)) 1000000
 some t2
def F_impl_more : Fn := ⟨[.val false cNI false], [.val false cNI true], fun a => impl_more a⟩
theorem m_impl_more : Meets Tryz.prog 110 F_impl_more := mkM g_109 110 Tryz.f110 [] F_impl_more Tryz.func110 (by kernel_rfl) (by kernel_rfl) (by kernel_rfl)
def fns_110 : List (FuncId × Fn) := (110, F_impl_more) :: fns_109
theorem g_110 : Good Tryz.prog ⟨tis, fns_110, [], false⟩ := g_109.cons m_impl_more
def impl_Arrive (a0 : Agent) (b1 : List Int) : Option Agent :=
 (impl_copyAgent a0).bind fun t7 =>
 (impl_AgentOk a0).bind fun t24 =>
 cond (!t24)
 (some t7)
 ((cond (decide ((a0.2.2.2.2.2.2.2.2.2.2.2.2.1.length : Int) ≥ 6))
 (some true)
 (some (decide (a0.2.2.2.2.2.2.2.2.2.2.2.2.2.2 ≥ 1000000)))).bind fun t35 =>
 cond t35
 ((impl_more a0.2.2.2.2.2.2.2.2.2.2.2.2.2.1).bind fun t38 =>
 some (t7.1, t7.2.1, t7.2.2.1, t7.2.2.2.1, t7.2.2.2.2.1, t7.2.2.2.2.2.1, t7.2.2.2.2.2.2.1, t7.2.2.2.2.2.2.2.1, t7.2.2.2.2.2.2.2.2.1, t7.2.2.2.2.2.2.2.2.2.1, t7.2.2.2.2.2.2.2.2.2.2.1, t7.2.2.2.2.2.2.2.2.2.2.2.1, t7.2.2.2.2.2.2.2.2.2.2.2.2.1, t38, t7.2.2.2.2.2.2.2.2.2.2.2.2.2.2))
 ((impl_copyBytes b1).bind fun t17 =>
 (app t7.2.2.2.2.2.2.2.2.2.2.2.2.1 ([(w64 (t7.2.2.2.2.2.2.2.2.2.2.2.2.2.2 + 1), t17, 0, 0, 0, 0, 0, [], 0, [], [], [], [], [], 0, 0, 0, 0, 0, 0, 0)])).bind fun zs20 =>
 some (t7.1, t7.2.1, t7.2.2.1, t7.2.2.2.1, t7.2.2.2.2.1, t7.2.2.2.2.2.1, t7.2.2.2.2.2.2.1, t7.2.2.2.2.2.2.2.1, t7.2.2.2.2.2.2.2.2.1, t7.2.2.2.2.2.2.2.2.2.1, t7.2.2.2.2.2.2.2.2.2.2.1, t7.2.2.2.2.2.2.2.2.2.2.2.1, zs20, t7.2.2.2.2.2.2.2.2.2.2.2.2.2.1, w64 (t7.2.2.2.2.2.2.2.2.2.2.2.2.2.2 + 1))))
def F_impl_Arrive : Fn := ⟨[.val true cAgent false, .val false cNY false], [.val true cAgent true], fun a => impl_Arrive a.1 a.2⟩
theorem m_impl_Arrive : Meets Tryz.prog 36 F_impl_Arrive := mkM g_110 36 Tryz.f36 [] F_impl_Arrive Tryz.func36 (by kernel_rfl) (by kernel_rfl) (by kernel_rfl)
def fns_36 : List (FuncId × Fn) := (36, F_impl_Arrive) :: fns_110
theorem g_36 : Good Tryz.prog ⟨tis, fns_36, [], false⟩ := g_110.cons m_impl_Arrive
def impl_tlv (tag0 : Int) (body1 : List Int) : Option ((List Int) × Bool) :=
 (impl_in tag0 0 255).bind fun t8 =>
 (cond (!t8) (some true) (some (decide ((body1.length : Int) > 250)))).bind fun t14 =>
 cond t14
 (some ([], false))
 (cond (decide ((body1.length : Int) ≥ 128))
 ((app [IntKind.u8.wrap (tag0)] ([129] : List Int)).bind fun zs23 =>
 (app zs23 [IntKind.u8.wrap ((body1.length : Int))]).bind fun zs29 =>
 (app zs29 body1).bind fun zs31 =>
 some (zs31, true))
 ((app [IntKind.u8.wrap (tag0)] [IntKind.u8.wrap ((body1.length : Int))]).bind fun zs29_1 =>
 (app zs29_1 body1).bind fun zs31_1 =>
 some (zs31_1, true)))
def F_impl_tlv : Fn := ⟨[.val false cNI false, .val false cNY false], [.val false cNY true, .val false cNB true], fun a => impl_tlv a.1 a.2⟩
theorem m_impl_tlv : Meets Tryz.prog 112 F_impl_tlv := mkM g_36 112 Tryz.f112 [] F_impl_tlv Tryz.func112 (by kernel_rfl) (by kernel_rfl) (by kernel_rfl)
def fns_112 : List (FuncId × Fn) := (112, F_impl_tlv) :: fns_36
theorem g_112 : Good Tryz.prog ⟨tis, fns_112, [], false⟩ := g_36.cons m_impl_tlv
def impl_PutTlv (b0 : List Int) (tag1 : Int) (body2 : List Int) : Option (List Int) :=
 (impl_tlv tag1 body2).bind fun t12 =>
 (impl_copyBytes b0).bind fun t16 =>
 (app t16 t12.1).bind fun zs18 =>
 some zs18
def F_impl_PutTlv : Fn := ⟨[.val false cNY false, .val false cNI false, .val false cNY false], [.val false cNY true], fun a => impl_PutTlv a.1 a.2.1 a.2.2⟩
theorem m_impl_PutTlv : Meets Tryz.prog 113 F_impl_PutTlv := mkM g_112 113 Tryz.f113 [] F_impl_PutTlv Tryz.func113 (by kernel_rfl) (by kernel_rfl) (by kernel_rfl)
def fns_113 : List (FuncId × Fn) := (113, F_impl_PutTlv) :: fns_112
theorem g_113 : Good Tryz.prog ⟨tis, fns_113, [], false⟩ := g_112.cons m_impl_PutTlv
def impl_PutInt_l0 (n0_1 : Int) (k3 : Int) : Option (Int ⊕ Int) :=
 (cond (decide (k3 < 4))
 ((shl .i64 (-1) (w64 ((w64 (8 * k3)) - 1))).bind fun t16 =>
 (shl .i64 1 (w64 ((w64 (8 * k3)) - 1))).bind fun t20 =>
 (impl_in n0_1 t16 (w64 (t20 - 1))).bind fun t22 =>
 some (!t22))
 (some false)).bind fun t24 =>
 cond t24 (some (.inl (w64 (k3 + 1)))) (some (.inr k3))
def impl_PutInt_l2 (n0_1 : Int) (i5 : Int) (out4 : List Int) : Option ((Int × List Int) ⊕ (List Int)) :=
 cond (decide (i5 ≥ 0))
 ((shr .i64 n0_1 (w64 (8 * i5))).bind fun t37 =>
 (app out4 [IntKind.u8.wrap (t37)]).bind fun zs40 =>
 some (.inl (w64 (i5 - 1), zs40)))
 (some (.inr out4))
def impl_PutInt (n0 : Int) : Option (List Int) :=
 let n0_1 := max2 (-2147483648) (min2 n0 2147483647)
 (loop (fun z => impl_PutInt_l0 n0_1 z) 1).bind fun d =>
 (loop (fun z => impl_PutInt_l2 n0_1 z.1 z.2) (w64 (d - 1), [])).bind fun d_1 =>
 some d_1
def F_impl_PutInt : Fn := ⟨[.val false cNI false], [.val false cNY true], fun a => impl_PutInt a⟩
def a_impl_PutInt : List (Nat × LoopAnn) := [(0, ⟨⟨(3, false, [dI]) :: us 12 12 [], []⟩,
 ⟨[(3, false, [dI])], []⟩, none⟩),
 (2, ⟨⟨[(4, false, [.own 1000002000]), (5, false, [dI])], [(1000002000, .root (.one (.int .u8)) true)]⟩,
 ⟨[(4, false, [.own 1000002300])], [(1000002300, .root (.one (.int .u8)) true)]⟩, none⟩)]
theorem m_impl_PutInt : Meets Tryz.prog 234 F_impl_PutInt := mkM g_113 234 Tryz.f234 a_impl_PutInt F_impl_PutInt Tryz.func234 (by kernel_rfl) (by kernel_rfl) (by kernel_rfl)
def fns_234 : List (FuncId × Fn) := (234, F_impl_PutInt) :: fns_113
theorem g_234 : Good Tryz.prog ⟨tis, fns_234, [], false⟩ := g_113.cons m_impl_PutInt
def impl_addNum (out0 : List Int) (tag1 : Int) (n2 : Int) : Option (List Int) :=
 (impl_PutInt n2).bind fun t10 =>
 (impl_PutTlv out0 tag1 t10).bind fun t11 =>
 some t11
def F_impl_addNum : Fn := ⟨[.val false cNY false, .val false cNI false, .val false cNI false], [.val false cNY true], fun a => impl_addNum a.1 a.2.1 a.2.2⟩
theorem m_impl_addNum : Meets Tryz.prog 114 F_impl_addNum := mkM g_234 114 Tryz.f114 [] F_impl_addNum Tryz.func114 (by kernel_rfl) (by kernel_rfl) (by kernel_rfl)
def fns_114 : List (FuncId × Fn) := (114, F_impl_addNum) :: fns_234
theorem g_114 : Good Tryz.prog ⟨tis, fns_114, [], false⟩ := g_234.cons m_impl_addNum
def impl_PutOid_l2 (x14 : Int) (k6 : Int) : Option (Int ⊕ Int) :=
 (shr .i64 x14 (w64 (7 * k6))).bind fun t19 =>
 cond (decide (t19 > 127)) (some (.inl (w64 (k6 + 1)))) (some (.inr k6))
def impl_PutOid_l4 (x14 : Int) (k6_2 : Int) (out3_1 : List Int) : Option ((Int × List Int) ⊕ (List Int)) :=
 cond (decide (k6_2 > 0))
 ((shr .i64 x14 (w64 (7 * k6_2))).bind fun t31 =>
 (app out3_1 [IntKind.u8.wrap (w64 ((band .i64 t31 127) + 128))]).bind fun zs36 =>
 some (.inl (w64 (k6_2 - 1), zs36)))
 (some (.inr out3_1))
def impl_PutOid_l0 (o0 : List Int) (t12 : Int) (out3 : List Int) : Option ((Int × List Int) ⊕ (List Int)) :=
 cond (decide (t12 < (o0.length : Int)))
 ((at? o0 t12).bind fun x14 =>
 (loop (fun z => impl_PutOid_l2 x14 z) 0).bind fun d =>
 (loop (fun z => impl_PutOid_l4 x14 z.1 z.2) (d, out3)).bind fun d_1 =>
 (app d_1 [IntKind.u8.wrap (band .i64 x14 127)]).bind fun zs42 =>
 some (.inl (w64 (t12 + 1), zs42)))
 (some (.inr out3))
def impl_PutOid (o0 : List Int) : Option (List Int) :=
 (impl_OidOk o0).bind fun t8 =>
 cond (!t8)
 (some [])
 ((loop (fun z => impl_PutOid_l0 o0 z.1 z.2) (0, [])).bind fun d_2 =>
 some d_2)
def F_impl_PutOid : Fn := ⟨[.val false cNN false], [.val false cNY true], fun a => impl_PutOid a⟩
def a_impl_PutOid : List (Nat × LoopAnn) := [(0, ⟨⟨[(3, false, [.own 1000000000]), (12, false, [dI])], [(1000000000, .root (.one (.int .u8)) true)]⟩,
 ⟨[(3, false, [.own 1000000300])], [(1000000300, .root (.one (.int .u8)) true)]⟩, none⟩),
 (2, ⟨⟨[(6, false, [dI])], []⟩,
 ⟨[(6, false, [dI])], []⟩, none⟩),
 (4, ⟨⟨[(3, false, [.own 1000004000]), (6, false, [dI])], [(1000004000, .root (.one (.int .u8)) true)]⟩,
 ⟨[(3, false, [.own 1000004300])], [(1000004300, .root (.one (.int .u8)) true)]⟩, none⟩)]
theorem m_impl_PutOid : Meets Tryz.prog 202 F_impl_PutOid := mkM g_114 202 Tryz.f202 a_impl_PutOid F_impl_PutOid Tryz.func202 (by kernel_rfl) (by kernel_rfl) (by kernel_rfl)
def fns_202 : List (FuncId × Fn) := (202, F_impl_PutOid) :: fns_114
theorem g_202 : Good Tryz.prog ⟨tis, fns_202, [], false⟩ := g_114.cons m_impl_PutOid
def impl_PutVal (b0 : List Int) (v1 : Val) : Option (List Int) :=
 (impl_ValOk v1).bind fun t7 =>
 cond (!t7)
 ((impl_copyBytes b0).bind fun t10 =>
 some t10)
 (cond (v1.1 == 2)
 ((impl_PutInt v1.2.1).bind fun t17 =>
 (impl_PutTlv b0 v1.1 t17).bind fun t32 =>
 some t32)
 (cond (v1.1 == 4)
 ((impl_PutTlv b0 v1.1 (intsOf v1.2.2.1)).bind fun t32_1 =>
 some t32_1)
 (cond (v1.1 == 6)
 ((impl_PutOid v1.2.2.2).bind fun t27 =>
 (impl_PutTlv b0 v1.1 t27).bind fun t32_2 =>
 some t32_2)
 ((impl_PutTlv b0 v1.1 []).bind fun t32_3 =>
 some t32_3))))
def F_impl_PutVal : Fn := ⟨[.val false cNY false, .val true cVal false], [.val false cNY true], fun a => impl_PutVal a.1 a.2⟩
theorem m_impl_PutVal : Meets Tryz.prog 201 F_impl_PutVal := mkM g_202 201 Tryz.f201 [] F_impl_PutVal Tryz.func201 (by kernel_rfl) (by kernel_rfl) (by kernel_rfl)
def fns_201 : List (FuncId × Fn) := (201, F_impl_PutVal) :: fns_202
theorem g_201 : Good Tryz.prog ⟨tis, fns_201, [], false⟩ := g_202.cons m_impl_PutVal
def impl_PutPdu_l0 (p0 : Pdu) (t18 : Int) (t3 : List Int) : Option ((Int × List Int) ⊕ ((List Int) ⊕ (List Int))) :=
 cond (decide (t18 < (p0.2.2.2.2.length : Int)))
 ((at? p0.2.2.2.2 t18).bind fun x20 =>
 (impl_PutOid x20.1).bind fun t25 =>
 (impl_PutTlv [] 6 t25).bind fun t26 =>
 (impl_PutVal t26 x20.2).bind fun t29 =>
 (impl_tlv 48 t29).bind fun t30 =>
 cond (!t30.2)
 (some (.inr (.inr [])))
 ((app t3 t30.1).bind fun zs37 =>
 some (.inl (w64 (t18 + 1), zs37))))
 (some (.inr (.inl t3)))
def impl_PutPdu (p0 : Pdu) : Option (List Int) :=
 (impl_PduOk p0).bind fun t13 =>
 cond (!t13)
 (some [])
 ((loop (fun z => impl_PutPdu_l0 p0 z.1 z.2) (0, [])).bind (Sum.elim (fun d =>
 (impl_tlv 48 d).bind fun t41 =>
 cond (!t41.2)
 (some [])
 ((impl_addNum [] 2 p0.2.1).bind fun t51 =>
 (impl_addNum t51 2 p0.2.2.1).bind fun t54 =>
 (impl_addNum t54 2 p0.2.2.2.1).bind fun t57 =>
 (app t57 t41.1).bind fun zs59 =>
 (impl_tlv p0.1 zs59).bind fun t60 =>
 cond (!t60.2) (some []) (some t60.1))) (fun r => some r)))
def F_impl_PutPdu : Fn := ⟨[.val true cPdu false], [.val false cNY true], fun a => impl_PutPdu a⟩
def a_impl_PutPdu : List (Nat × LoopAnn) := [(0, ⟨⟨[(3, false, [.own 1000000000]), (18, false, [dI])], [(1000000000, .root (.one (.int .u8)) true)]⟩,
 ⟨[(3, false, [.own 1000000300])], [(1000000300, .root (.one (.int .u8)) true)]⟩, some ⟨[(2, false, [.own 1000000600])], [(1000000600, .root (.one (.int .u8)) true)]⟩⟩)]
theorem m_impl_PutPdu : Meets Tryz.prog 88 F_impl_PutPdu := mkM g_201 88 Tryz.f88 a_impl_PutPdu F_impl_PutPdu Tryz.func88 (by kernel_rfl) (by kernel_rfl) (by kernel_rfl)
def fns_88 : List (FuncId × Fn) := (88, F_impl_PutPdu) :: fns_201
theorem g_88 : Good Tryz.prog ⟨tis, fns_88, [], false⟩ := g_201.cons m_impl_PutPdu
def impl_PutMsg (word0 : List UInt8) (p1 : Pdu) : Option (List Int) :=
 (impl_PutPdu p1).bind fun t9 =>
 (cond ((t9.length : Int) == 0) (some true) (some (decide ((word0.length : Int) > 20)))).bind fun t17 =>
 cond t17
 (some [])
 ((impl_addNum [] 2 1).bind fun t19 =>
 (impl_PutTlv t19 4 (intsOf word0)).bind fun t22 =>
 (app t22 t9).bind fun zs24 =>
 (impl_tlv 48 zs24).bind fun t25 =>
 cond (!t25.2) (some []) (some t25.1))
def F_impl_PutMsg : Fn := ⟨[.val false cNS false, .val true cPdu false], [.val false cNY true], fun a => impl_PutMsg a.1 a.2⟩
theorem m_impl_PutMsg : Meets Tryz.prog 37 F_impl_PutMsg := mkM g_88 37 Tryz.f37 [] F_impl_PutMsg Tryz.func37 (by kernel_rfl) (by kernel_rfl) (by kernel_rfl)
def fns_37 : List (FuncId × Fn) := (37, F_impl_PutMsg) :: fns_88
theorem g_37 : Good Tryz.prog ⟨tis, fns_37, [], false⟩ := g_88.cons m_impl_PutMsg
def impl_Sends_l0 (id0 : Int) (l1 : List Pt) (bits5 : Int) (port6 : Int) : Option ((Int × Int) ⊕ Int) :=
 (cond (decide (port6 < (l1.length : Int))) (some (decide (port6 < 6))) (some false)).bind fun t15 =>
 cond t15
 ((impl_RoleOf id0 l1 port6).bind fun t21 =>
 (cond (t21 == 1) (some true) (some (t21 == 2))).bind fun t27 =>
 cond t27
 ((shl .i64 1 port6).bind fun t30 =>
 some (.inl (bor .i64 bits5 t30, w64 (port6 + 1))))
 (some (.inl (bits5, w64 (port6 + 1)))))
 (some (.inr bits5))
def impl_Sends (id0 : Int) (l1 : List Pt) : Option Int :=
 (loop (fun z => impl_Sends_l0 id0 l1 z.1 z.2) (0, 0)).bind fun d =>
 some d
def F_impl_Sends : Fn := ⟨[.val false cNI false, .val false (.one (.sl cPt)) false], [.val false cNI true], fun a => impl_Sends a.1 a.2⟩
def a_impl_Sends : List (Nat × LoopAnn) := [(0, ⟨⟨[(5, false, [dI]), (6, false, [dI]), (13, false, [.undef]), (14, false, [.undef]), (25, false, [.undef]), (26, false, [.undef])], []⟩,
 ⟨[(5, false, [dI])], []⟩, none⟩)]
theorem m_impl_Sends : Meets Tryz.prog 208 F_impl_Sends := mkM g_37 208 Tryz.f208 a_impl_Sends F_impl_Sends Tryz.func208 (by kernel_rfl) (by kernel_rfl) (by kernel_rfl)
def fns_208 : List (FuncId × Fn) := (208, F_impl_Sends) :: fns_37
theorem g_208 : Good Tryz.prog ⟨tis, fns_208, [], false⟩ := g_37.cons m_impl_Sends
def impl_hasPort (bits0 : Int) (port1 : Int) : Option Bool :=
 (impl_in port1 0 62).bind fun t6 =>
 (cond t6
 ((shr .i64 bits0 port1).bind fun t10 =>
 some ((band .i64 t10 1) == 1))
 (some false)).bind fun t13 =>
 some t13
def F_impl_hasPort : Fn := ⟨[.val false cNI false, .val false cNI false], [.val false cNB true], fun a => impl_hasPort a.1 a.2⟩
theorem m_impl_hasPort : Meets Tryz.prog 209 F_impl_hasPort := mkM g_208 209 Tryz.f209 [] F_impl_hasPort Tryz.func209 (by kernel_rfl) (by kernel_rfl) (by kernel_rfl)
def fns_209 : List (FuncId × Fn) := (209, F_impl_hasPort) :: fns_208
theorem g_209 : Good Tryz.prog ⟨tis, fns_209, [], false⟩ := g_208.cons m_impl_hasPort
def impl_FlushPort_l0 (l0 : List Fent) (port1 : Int) (t10 : Int) (out5 : List Fent) : Option ((Int × List Fent) ⊕ (List Fent)) :=
 cond (decide (t10 < (l0.length : Int)))
 ((at? l0 t10).bind fun x12 =>
 (cond x12.2.2.2.2 (some true) (some (x12.2.2.1 != port1))).bind fun t21 =>
 cond t21
 ((app out5 [x12]).bind fun zs25 =>
 some (.inl (w64 (t10 + 1), zs25)))
 (some (.inl (w64 (t10 + 1), out5))))
 (some (.inr out5))
def impl_FlushPort (l0 : List Fent) (port1 : Int) : Option (List Fent) :=
 (loop (fun z => impl_FlushPort_l0 l0 port1 z.1 z.2) (0, [])).bind fun d =>
 some d
def F_impl_FlushPort : Fn := ⟨[.val false (.one (.sl cFent)) false, .val false cNI false], [.val false (.one (.sl cFent)) true], fun a => impl_FlushPort a.1 a.2⟩
def a_impl_FlushPort : List (Nat × LoopAnn) := [(0, ⟨⟨(5, false, [.own 1000000000]) :: (10, false, [dI]) :: us 17 4 [], [(1000000000, .root cFent true)]⟩,
 ⟨[(5, false, [.own 1000000300])], [(1000000300, .root cFent true)]⟩, none⟩)]
theorem m_impl_FlushPort : Meets Tryz.prog 210 F_impl_FlushPort := mkM g_209 210 Tryz.f210 a_impl_FlushPort F_impl_FlushPort Tryz.func210 (by kernel_rfl) (by kernel_rfl) (by kernel_rfl)
def fns_210 : List (FuncId × Fn) := (210, F_impl_FlushPort) :: fns_209
theorem g_210 : Good Tryz.prog ⟨tis, fns_210, [], false⟩ := g_209.cons m_impl_FlushPort
def impl_Bridge_turn_l0 (b0 : Bridge) (t20 : Int) (t26 : Int) (b0_1 : Int) (b1 : List UInt8) (b6 : Int) (b7 : Int) (b8 : Int) (b9 : Int) (b10 : Int) (b3 : List Fent) : Option ((Int × Int × List UInt8 × Int × Int × Int × Int × Int × List Fent) ⊕ (Int × List UInt8 × Int × Int × Int × Int × Int × List Fent)) :=
 cond (decide (t26 < (b0.2.2.1.length : Int)))
 ((impl_hasPort t20 t26).bind fun t31 =>
 cond (!t31)
 ((impl_FlushPort b3 t26).bind fun t39 =>
 some (.inl (w64 (t26 + 1), b0_1, b1, b6, b7, b8, b9, b10, t39)))
 (some (.inl (w64 (t26 + 1), b0_1, b1, b6, b7, b8, b9, b10, b3))))
 (some (.inr (b0_1, b1, b6, b7, b8, b9, b10, b3)))
def impl_Bridge_turn (b0 : Bridge) : Option Bridge :=
 (impl_more b0.2.2.2.2.2.2.2.2.2.2).bind fun t9 =>
 (impl_Sends b0.1 b0.2.2.1).bind fun t20 =>
 (loop (fun z => impl_Bridge_turn_l0 b0 t20 z.1 z.2.1 z.2.2.1 z.2.2.2.1 z.2.2.2.2.1 z.2.2.2.2.2.1 z.2.2.2.2.2.2.1 z.2.2.2.2.2.2.2.1 z.2.2.2.2.2.2.2.2) (0, b0.1, b0.2.1, b0.2.2.2.2.2.2.1, b0.2.2.2.2.2.2.2.1, b0.2.2.2.2.2.2.2.2.1, b0.2.2.2.2.2.2.2.2.2.1, t9, b0.2.2.2.1)).bind fun d =>
 some (d.1, d.2.1, b0.2.2.1, d.2.2.2.2.2.2.2, b0.2.2.2.2.1, b0.2.2.2.2.2.1, d.2.2.1, d.2.2.2.1, d.2.2.2.2.1, d.2.2.2.2.2.1, d.2.2.2.2.2.2.1)
def F_impl_Bridge_turn : Fn := ⟨[.ptr cBridge true], [], fun a => impl_Bridge_turn a⟩
def a_impl_Bridge_turn : List (Nat × LoopAnn) := [(0, ⟨⟨[(26, false, [dI])], [(1, .box [dI, dS, .same 4, .own 1000000000, .same 6, .same 7, dI, dI, dI, dI, dI]), (1000000000, .root cFent true)]⟩,
 ⟨[], [(1, .box [dI, dS, .same 4, .own 1000000300, .same 6, .same 7, dI, dI, dI, dI, dI]), (1000000300, .root cFent true)]⟩, none⟩)]
theorem m_impl_Bridge_turn : Meets Tryz.prog 92 F_impl_Bridge_turn := mkM g_210 92 Tryz.f92 a_impl_Bridge_turn F_impl_Bridge_turn Tryz.func92 (by kernel_rfl) (by kernel_rfl) (by kernel_rfl)
def fns_92 : List (FuncId × Fn) := (92, F_impl_Bridge_turn) :: fns_210
theorem g_92 : Good Tryz.prog ⟨tis, fns_92, [], false⟩ := g_210.cons m_impl_Bridge_turn
def impl_AgeAll_l0 (l0 : List Fent) (t8 : Int) (out3 : List Fent) : Option ((Int × List Fent) ⊕ (List Fent)) :=
 cond (decide (t8 < (l0.length : Int)))
 ((at? l0 t8).bind fun x10 =>
 cond (!x10.2.2.2.2)
 (cond (decide (x10.2.2.2.1 ≥ 4))
 (some (.inl (w64 (t8 + 1), out3)))
 ((app out3 [(x10.1, x10.2.1, x10.2.2.1, w64 (x10.2.2.2.1 + 1), x10.2.2.2.2)]).bind fun zs25 =>
 some (.inl (w64 (t8 + 1), zs25))))
 ((app out3 [x10]).bind fun zs25_1 =>
 some (.inl (w64 (t8 + 1), zs25_1))))
 (some (.inr out3))
def impl_AgeAll (l0 : List Fent) : Option (List Fent) :=
 (loop (fun z => impl_AgeAll_l0 l0 z.1 z.2) (0, [])).bind fun d =>
 some d
def F_impl_AgeAll : Fn := ⟨[.val false (.one (.sl cFent)) false], [.val false (.one (.sl cFent)) true], fun a => impl_AgeAll a⟩
def a_impl_AgeAll : List (Nat × LoopAnn) := [(0, ⟨⟨[(3, false, [.own 1000000000]), (8, false, [dI])], [(1000000000, .root cFent true)]⟩,
 ⟨[(3, false, [.own 1000000300])], [(1000000300, .root cFent true)]⟩, none⟩)]
theorem m_impl_AgeAll : Meets Tryz.prog 115 F_impl_AgeAll := mkM g_92 115 Tryz.f115 a_impl_AgeAll F_impl_AgeAll Tryz.func115 (by kernel_rfl) (by kernel_rfl) (by kernel_rfl)
def fns_115 : List (FuncId × Fn) := (115, F_impl_AgeAll) :: fns_92
theorem g_115 : Good Tryz.prog ⟨tis, fns_115, [], false⟩ := g_92.cons m_impl_AgeAll
def impl_Tick (b0 : Bridge) : Option Bridge :=
 (impl_copyBridge b0).bind fun t5 =>
 (impl_BridgeOk b0).bind fun t7 =>
 cond t7
 ((impl_more b0.2.2.2.2.2.2.1).bind fun t10 =>
 (impl_AgeAll b0.2.2.2.1).bind fun t14 =>
 (impl_Bridge_turn (t5.1, t5.2.1, t5.2.2.1, t14, t5.2.2.2.2.1, t5.2.2.2.2.2.1, t10, t5.2.2.2.2.2.2.2.1, t5.2.2.2.2.2.2.2.2.1, t5.2.2.2.2.2.2.2.2.2.1, t5.2.2.2.2.2.2.2.2.2.2)).bind fun t16 =>
 some t16)
 (some t5)
def F_impl_Tick : Fn := ⟨[.val true cBridge false], [.val true cBridge true], fun a => impl_Tick a⟩
theorem m_impl_Tick : Meets Tryz.prog 38 F_impl_Tick := mkM g_115 38 Tryz.f38 [] F_impl_Tick Tryz.func38 (by kernel_rfl) (by kernel_rfl) (by kernel_rfl)
def fns_38 : List (FuncId × Fn) := (38, F_impl_Tick) :: fns_115
theorem g_38 : Good Tryz.prog ⟨tis, fns_38, [], false⟩ := g_115.cons m_impl_Tick
def impl_GetTlv (p0 : List Int) (i1 : Int) : Option (Int × (List Int) × Int × Bool) :=
 (cond (decide (i1 < 0)) (some true) (some (decide (i1 > (w64 ((p0.length : Int) - 2)))))).bind fun t18 =>
 cond t18
 (some (0, [], 0, false))
 ((at? p0 (w64 (i1 + 1))).bind fun x22 =>
 cond (decide ((w64 (x22)) ≥ 128))
 ((cond ((w64 (x22)) != 129) (some true) (some (decide ((w64 (i1 + 2)) ≥ (p0.length : Int))))).bind fun t36 =>
 (cond t36
 (some true)
 ((at? p0 (w64 (i1 + 2))).bind fun x40 =>
 some (decide (x40 < 128)))).bind fun t43 =>
 cond t43
 (some (0, [], 0, false))
 ((at? p0 (w64 (i1 + 2))).bind fun x46 =>
 (cond (decide ((w64 (x46)) > 250))
 (some true)
 (some (decide ((w64 (x46)) > (w64 ((p0.length : Int) - (w64 ((w64 (i1 + 2)) + 1)))))))).bind fun t60 =>
 cond t60
 (some (0, [], 0, false))
 ((at? p0 i1).bind fun x63 =>
 (cut p0 (w64 ((w64 (i1 + 2)) + 1)) (w64 ((w64 ((w64 (i1 + 2)) + 1)) + (w64 (x46))))).bind fun t71 =>
 (impl_copyBytes t71).bind fun t72 =>
 let t6 := w64 ((w64 ((w64 (i1 + 2)) + 1)) + (w64 (x46)))
 some (w64 (x63), t72, t6, true))))
 ((cond (decide ((w64 (x22)) > 250))
 (some true)
 (some (decide ((w64 (x22)) > (w64 ((p0.length : Int) - (w64 (i1 + 2)))))))).bind fun t60_1 =>
 cond t60_1
 (some (0, [], 0, false))
 ((at? p0 i1).bind fun x63_1 =>
 (cut p0 (w64 (i1 + 2)) (w64 ((w64 (i1 + 2)) + (w64 (x22))))).bind fun t71_1 =>
 (impl_copyBytes t71_1).bind fun t72_1 =>
 let t6_1 := w64 ((w64 (i1 + 2)) + (w64 (x22)))
 some (w64 (x63_1), t72_1, t6_1, true))))
def F_impl_GetTlv : Fn := ⟨[.val false cNY false, .val false cNI false], [.val false cNI true, .val false cNY true, .val false cNI true, .val false cNB true], fun a => impl_GetTlv a.1 a.2⟩
theorem m_impl_GetTlv : Meets Tryz.prog 334 F_impl_GetTlv := mkM g_38 334 Tryz.f334 [] F_impl_GetTlv Tryz.func334 (by kernel_rfl) (by kernel_rfl) (by kernel_rfl)
def fns_334 : List (FuncId × Fn) := (334, F_impl_GetTlv) :: fns_38
theorem g_334 : Good Tryz.prog ⟨tis, fns_334, [], false⟩ := g_38.cons m_impl_GetTlv
def impl_parts_part (r0 : Parts) (tag1 : Int) : Option (Parts × List Int) :=
 (impl_GetTlv r0.1 r0.2.1).bind fun t18 =>
 (cond r0.2.2 (some true) (some (!t18.2.2.2))).bind fun t30 =>
 (cond t30 (some true) (some (t18.1 != tag1))).bind fun t35 =>
 cond t35
 (some ((r0.1, r0.2.1, true), []))
 (some ((r0.1, t18.2.2.1, r0.2.2), t18.2.1))
def F_impl_parts_part : Fn := ⟨[.ptr cParts false, .val false cNI false], [.val false cNY true], fun a => impl_parts_part a.1 a.2⟩
theorem m_impl_parts_part : Meets Tryz.prog 336 F_impl_parts_part := mkM g_334 336 Tryz.f336 [] F_impl_parts_part Tryz.func336 (by kernel_rfl) (by kernel_rfl) (by kernel_rfl)
def fns_336 : List (FuncId × Fn) := (336, F_impl_parts_part) :: fns_334
theorem g_336 : Good Tryz.prog ⟨tis, fns_336, [], false⟩ := g_334.cons m_impl_parts_part
def impl_GetInt_l0 (t17 : List Int) (n4_1 : Int) (t19 : Int) : Option ((Int × Int) ⊕ Int) :=
 cond (decide (t19 < (t17.length : Int)))
 ((at? t17 t19).bind fun x21 =>
 let n4_2 := bor .i64 (w64 (n4_1 * 2 ^ 8)) (w64 (x21))
 some (.inl (n4_2, w64 (t19 + 1))))
 (some (.inr n4_1))
def impl_GetInt (b0 : List Int) : Option (Int × Bool) :=
 (impl_in (b0.length : Int) 1 4).bind fun t9 =>
 cond (!t9)
 (some (0, false))
 ((at? b0 0).bind fun x12 =>
 let n4 := w64 (IntKind.i8.wrap (x12))
 (cut b0 1 (b0.length : Int)).bind fun t17 =>
 (loop (fun z => impl_GetInt_l0 t17 z.1 z.2) (n4, 0)).bind fun d =>
 (impl_PutInt d).bind fun t30 =>
 cond ((t30.length : Int) != (b0.length : Int)) (some (0, false)) (some (d, true)))
def F_impl_GetInt : Fn := ⟨[.val false cNY false], [.val false cNI true, .val false cNB true], fun a => impl_GetInt a⟩
def a_impl_GetInt : List (Nat × LoopAnn) := [(0, ⟨⟨[(4, false, [dI]), (19, false, [dI])], []⟩,
 ⟨[(4, false, [dI])], []⟩, none⟩)]
theorem m_impl_GetInt : Meets Tryz.prog 363 F_impl_GetInt := mkM g_336 363 Tryz.f363 a_impl_GetInt F_impl_GetInt Tryz.func363 (by kernel_rfl) (by kernel_rfl) (by kernel_rfl)
def fns_363 : List (FuncId × Fn) := (363, F_impl_GetInt) :: fns_336
theorem g_363 : Good Tryz.prog ⟨tis, fns_363, [], false⟩ := g_336.cons m_impl_GetInt
def impl_parts_num (r0 : Parts) (tag1 : Int) : Option (Parts × Int) :=
 (impl_parts_part r0 tag1).bind fun t10 =>
 (impl_GetInt t10.2).bind fun t11 =>
 (cond t10.1.2.2 (some true) (some (!t11.2))).bind fun t22 =>
 some ((t10.1.1, t10.1.2.1, t22), t11.1)
def F_impl_parts_num : Fn := ⟨[.ptr cParts false, .val false cNI false], [.val false cNI true], fun a => impl_parts_num a.1 a.2⟩
theorem m_impl_parts_num : Meets Tryz.prog 335 F_impl_parts_num := mkM g_363 335 Tryz.f335 [] F_impl_parts_num Tryz.func335 (by kernel_rfl) (by kernel_rfl) (by kernel_rfl)
def fns_335 : List (FuncId × Fn) := (335, F_impl_parts_num) :: fns_363
theorem g_335 : Good Tryz.prog ⟨tis, fns_335, [], false⟩ := g_363.cons m_impl_parts_num
def impl_parts_done (r0 : Parts) : Option (Parts × Bool) :=
 (cond (!r0.2.2) (some (r0.2.1 == (r0.1.length : Int))) (some false)).bind fun t19 =>
 some (r0, t19)
def F_impl_parts_done : Fn := ⟨[.ptr cParts false], [.val false cNB true], fun a => impl_parts_done a⟩
theorem m_impl_parts_done : Meets Tryz.prog 364 F_impl_parts_done := mkM g_335 364 Tryz.f364 [] F_impl_parts_done Tryz.func364 (by kernel_rfl) (by kernel_rfl) (by kernel_rfl)
def fns_364 : List (FuncId × Fn) := (364, F_impl_parts_done) :: fns_335
theorem g_364 : Good Tryz.prog ⟨tis, fns_364, [], false⟩ := g_335.cons m_impl_parts_done
def impl_GetOid_l0 (b0 : List Int) (n5 : Int) (t11 : Int) (out4 : List Int) : Option ((Int × Int × List Int) ⊕ ((List Int) ⊕ (Bool × List Int))) :=
 cond (decide (t11 < (b0.length : Int)))
 ((at? b0 t11).bind fun x14 =>
 cond (decide (t11 ≥ 40))
 (some (.inr (.inr (false, []))))
 (let n5_1 := bor .i64 (w64 ((min2 n5 1048576) * 2 ^ 7)) (w64 (band .u8 x14 127))
 cond (decide (x14 < 128))
 ((app out4 [n5_1]).bind fun zs30 =>
 some (.inl (0, w64 (t11 + 1), zs30)))
 (some (.inl (n5_1, w64 (t11 + 1), out4)))))
 (some (.inr (.inl out4)))
def impl_GetOid (b0 : List Int) : Option ((List Int) × Bool) :=
 (loop (fun z => impl_GetOid_l0 b0 z.1 z.2.1 z.2.2) (0, 0, [])).bind (Sum.elim (fun d =>
 (impl_PutOid d).bind fun t33 =>
 (cond ((t33.length : Int) == 0) (some true) (some (!((bytesOf t33) == (bytesOf b0))))).bind fun t43 =>
 cond t43 (some ([], false)) (some (d, true))) (fun r => some (r.2, r.1)))
def F_impl_GetOid : Fn := ⟨[.val false cNY false], [.val false cNN true, .val false cNB true], fun a => impl_GetOid a⟩
def a_impl_GetOid : List (Nat × LoopAnn) := [(0, ⟨⟨[(4, false, [.own 1000000000]), (5, false, [dI]), (11, false, [dI])], [(1000000000, .root cNI true)]⟩,
 ⟨[(4, false, [.own 1000000300])], [(1000000300, .root cNI true)]⟩, some ⟨[(2, false, [.own 1000000600]), (3, false, [dB])], [(1000000600, .root cNI true)]⟩⟩)]
theorem m_impl_GetOid : Meets Tryz.prog 373 F_impl_GetOid := mkM g_364 373 Tryz.f373 a_impl_GetOid F_impl_GetOid Tryz.func373 (by kernel_rfl) (by kernel_rfl) (by kernel_rfl)
def fns_373 : List (FuncId × Fn) := (373, F_impl_GetOid) :: fns_364
theorem g_373 : Good Tryz.prog ⟨tis, fns_373, [], false⟩ := g_364.cons m_impl_GetOid
def impl_GetVal (b0 : List Int) (at1 : Int) : Option (Val × Int × Bool) :=
 (impl_GetTlv b0 at1).bind fun t15 =>
 cond (!t15.2.2.2)
 (some ((0, 0, [], []), 0, false))
 (cond (t15.1 == 2)
 ((impl_GetInt t15.2.1).bind fun t33 =>
 (cond (!t33.2)
 (some true)
 ((impl_ValOk (t15.1, t33.1, [], [])).bind fun t54 =>
 some (!t54))).bind fun t56 =>
 cond t56
 (some ((0, 0, [], []), 0, false))
 (some ((t15.1, t33.1, [], []), t15.2.2.1, true)))
 (cond (t15.1 == 4)
 ((cond (!t15.2.2.2)
 (some true)
 ((impl_ValOk (t15.1, 0, bytesOf t15.2.1, [])).bind fun t54_1 =>
 some (!t54_1))).bind fun t56_1 =>
 cond t56_1
 (some ((0, 0, [], []), 0, false))
 (some ((t15.1, 0, bytesOf t15.2.1, []), t15.2.2.1, true)))
 (cond (t15.1 == 6)
 ((impl_GetOid t15.2.1).bind fun t46 =>
 (cond (!t46.2)
 (some true)
 ((impl_ValOk (t15.1, 0, [], t46.1)).bind fun t54_2 =>
 some (!t54_2))).bind fun t56_2 =>
 cond t56_2
 (some ((0, 0, [], []), 0, false))
 (some ((t15.1, 0, [], t46.1), t15.2.2.1, true)))
 (let ok10 := (t15.2.1.length : Int) == 0
 (cond (!ok10)
 (some true)
 ((impl_ValOk (t15.1, 0, [], [])).bind fun t54_3 =>
 some (!t54_3))).bind fun t56_3 =>
 cond t56_3
 (some ((0, 0, [], []), 0, false))
 (some ((t15.1, 0, [], []), t15.2.2.1, true))))))
def F_impl_GetVal : Fn := ⟨[.val false cNY false, .val false cNI false], [.val true cVal true, .val false cNI true, .val false cNB true], fun a => impl_GetVal a.1 a.2⟩
theorem m_impl_GetVal : Meets Tryz.prog 374 F_impl_GetVal := mkM g_373 374 Tryz.f374 [] F_impl_GetVal Tryz.func374 (by kernel_rfl) (by kernel_rfl) (by kernel_rfl)
def fns_374 : List (FuncId × Fn) := (374, F_impl_GetVal) :: fns_373
theorem g_374 : Good Tryz.prog ⟨tis, fns_374, [], false⟩ := g_373.cons m_impl_GetVal
def impl_bindOf (b0 : List Int) : Option (Bind × Bool) :=
 (impl_parts_part (b0, 0, false) 6).bind fun t15 =>
 (impl_GetOid t15.2).bind fun t16 =>
 (impl_GetVal b0 t15.1.2.1).bind fun t25 =>
 (cond t15.1.2.2 (some true) (some (!t16.2))).bind fun t36 =>
 (cond t36 (some true) (some (!t25.2.2))).bind fun t40 =>
 (cond t40 (some true) (some (t25.2.1 != (b0.length : Int)))).bind fun t46 =>
 cond t46
 (some (([], 0, 0, [], []), false))
 (some ((t16.1, t25.1.1, t25.1.2.1, t25.1.2.2.1, t25.1.2.2.2), true))
def F_impl_bindOf : Fn := ⟨[.val false cNY false], [.val true cBind true, .val false cNB true], fun a => impl_bindOf a⟩
theorem m_impl_bindOf : Meets Tryz.prog 365 F_impl_bindOf := mkM g_374 365 Tryz.f365 [] F_impl_bindOf Tryz.func365 (by kernel_rfl) (by kernel_rfl) (by kernel_rfl)
def fns_365 : List (FuncId × Fn) := (365, F_impl_bindOf) :: fns_374
theorem g_365 : Good Tryz.prog ⟨tis, fns_365, [], false⟩ := g_374.cons m_impl_bindOf
def impl_GetPdu_l0 (b0 : Int) (b1 : Int) (b2 : Int) (b3 : Int) (b0_1 : Int) (b1_1 : Int) (b2_1 : Int) (b3_1 : Int) (b0_2 : List Int) (b1_2 : Int) (b2_2 : Bool) (b4 : List Bind) (b4_1 : List Bind) : Option ((Int × Int × Int × Int × Int × Int × Int × Int × List Int × Int × Bool × List Bind × List Bind) ⊕ ((Int × Int × Int × Int × Int × Int × Int × Int × List Int × Int × Bool × List Bind × List Bind) ⊕ (Bool × Int × Int × Int × Int × List Bind))) :=
 cond (decide (b1_2 < (b0_2.length : Int)))
 ((impl_parts_part (b0_2, b1_2, b2_2) 48).bind fun t64 =>
 (impl_bindOf t64.2).bind fun t65 =>
 (cond (!t65.2) (some true) (some (decide ((b4_1.length : Int) ≥ 10)))).bind fun t75 =>
 cond t75
 (some (.inr (.inr (false, 0, 0, 0, 0, []))))
 ((app b4_1 [t65.1]).bind fun zs81 =>
 some (.inl (b0, b1, b2, b3, b0_1, b1_1, b2_1, b3_1, t64.1.1, t64.1.2.1, t64.1.2.2, b4, zs81))))
 (some (.inr (.inl (b0, b1, b2, b3, b0_1, b1_1, b2_1, b3_1, b0_2, b1_2, b2_2, b4, b4_1))))
def impl_GetPdu (p0 : List Int) : Option (Pdu × Bool) :=
 (impl_GetTlv p0 0).bind fun t16 =>
 (cond (!t16.2.2.2) (some true) (some (t16.2.2.1 != (p0.length : Int)))).bind fun t28 =>
 cond t28
 (some ((0, 0, 0, 0, []), false))
 ((impl_parts_num (t16.2.1, 0, false) 2).bind fun t36 =>
 (impl_parts_num t36.1 2).bind fun t39 =>
 (impl_parts_num t39.1 2).bind fun t42 =>
 (impl_parts_part t42.1 48).bind fun t45 =>
 (impl_parts_done t45.1).bind fun t49 =>
 cond (!t49.2)
 (some ((0, 0, 0, 0, []), false))
 ((loop (fun z => impl_GetPdu_l0 z.1 z.2.1 z.2.2.1 z.2.2.2.1 z.2.2.2.2.1 z.2.2.2.2.2.1 z.2.2.2.2.2.2.1 z.2.2.2.2.2.2.2.1 z.2.2.2.2.2.2.2.2.1 z.2.2.2.2.2.2.2.2.2.1 z.2.2.2.2.2.2.2.2.2.2.1 z.2.2.2.2.2.2.2.2.2.2.2.1 z.2.2.2.2.2.2.2.2.2.2.2.2) (0, 0, 0, 0, t16.1, t36.2, t39.2, t42.2, t45.2, 0, false, [], [])).bind (Sum.elim (fun d =>
 (impl_PutPdu (d.2.2.2.2.1, d.2.2.2.2.2.1, d.2.2.2.2.2.2.1, d.2.2.2.2.2.2.2.1, d.2.2.2.2.2.2.2.2.2.2.2.2)).bind fun t84 =>
 (cond ((t84.length : Int) == 0) (some true) (some (!((bytesOf t84) == (bytesOf p0))))).bind fun t94 =>
 cond t94
 (some ((0, 0, 0, 0, []), false))
 (some ((d.2.2.2.2.1, d.2.2.2.2.2.1, d.2.2.2.2.2.2.1, d.2.2.2.2.2.2.2.1, d.2.2.2.2.2.2.2.2.2.2.2.2), true))) (fun r => some (r.2, r.1)))))
def F_impl_GetPdu : Fn := ⟨[.val false cNY false], [.val true cPdu true, .val false cNB true], fun a => impl_GetPdu a⟩
def a_impl_GetPdu : List (Nat × LoopAnn) := [(0, ⟨⟨us 71 4 [], [(1024, .box [dI, dI, dI, dI, .own 1000000000]), (1051648, .box [dI, dI, dI, dI, .own 1000000001]), (2363392, .box [.dat (.sl (.one (.int .u8))), dI, dB]), (1000000000, .root cBind true), (1000000001, .root cBind true)]⟩,
 ⟨[], [(1024, .box [dI, dI, dI, dI, .own 1000000300]), (1051648, .box [dI, dI, dI, dI, .own 1000000301]), (2363392, .box [.dat (.sl (.one (.int .u8))), dI, dB]), (1000000300, .root cBind true), (1000000301, .root cBind true)]⟩, some ⟨[(3, false, [dB])], [(1024, .box [dI, dI, dI, dI, .own 1000000600]), (1000000600, .root cBind true)]⟩⟩)]
theorem m_impl_GetPdu : Meets Tryz.prog 337 F_impl_GetPdu := mkM g_365 337 Tryz.f337 a_impl_GetPdu F_impl_GetPdu Tryz.func337 (by kernel_rfl) (by kernel_rfl) (by kernel_rfl)
def fns_337 : List (FuncId × Fn) := (337, F_impl_GetPdu) :: fns_365
theorem g_337 : Good Tryz.prog ⟨tis, fns_337, [], false⟩ := g_365.cons m_impl_GetPdu
def impl_GetMsg (p0 : List UInt8) (i1 : List Int) : Option (Pdu × Int) :=
 (impl_GetTlv i1 0).bind fun t17 =>
 (cond (!t17.2.2.2) (some true) (some (t17.1 != 48))).bind fun t27 =>
 (cond t27 (some true) (some (t17.2.2.1 != (i1.length : Int)))).bind fun t33 =>
 cond t33
 (some ((0, 0, 0, 0, []), 1))
 ((impl_parts_num (t17.2.1, 0, false) 2).bind fun t39 =>
 (impl_parts_part t39.1 4).bind fun t41 =>
 cond t41.1.2.2
 (some ((0, 0, 0, 0, []), 1))
 (cond (t39.2 != 1)
 (some ((0, 0, 0, 0, []), 2))
 (cond (!((bytesOf t41.2) == p0))
 (some ((0, 0, 0, 0, []), 3))
 ((cut t17.2.1 t41.1.2.1 (t17.2.1.length : Int)).bind fun t64 =>
 (impl_GetPdu t64).bind fun t65 =>
 cond (!t65.2) (some ((0, 0, 0, 0, []), 1)) (some (t65.1, 0))))))
def F_impl_GetMsg : Fn := ⟨[.val false cNS false, .val false cNY false], [.val true cPdu true, .val false cNI true], fun a => impl_GetMsg a.1 a.2⟩
theorem m_impl_GetMsg : Meets Tryz.prog 268 F_impl_GetMsg := mkM g_337 268 Tryz.f268 [] F_impl_GetMsg Tryz.func268 (by kernel_rfl) (by kernel_rfl) (by kernel_rfl)
def fns_268 : List (FuncId × Fn) := (268, F_impl_GetMsg) :: fns_337
theorem g_268 : Good Tryz.prog ⟨tis, fns_268, [], false⟩ := g_337.cons m_impl_GetMsg
def impl_Agent_drop (a0 : Agent) (k1 : Int) : Option Agent :=
 (cutIx a0.2.2.2.2.2.2.2.2.2.2.2.2.1.length 0 k1).bind fun p =>
 (cutIx a0.2.2.2.2.2.2.2.2.2.2.2.2.1.length (w64 (k1 + 1)) (a0.2.2.2.2.2.2.2.2.2.2.2.2.1.length : Int)).bind fun p_1 =>
 (cutTwo a0.2.2.2.2.2.2.2.2.2.2.2.2.1 p.1 p.2 p_1.1 p_1.2).bind fun zs18 =>
 some (a0.1, a0.2.1, a0.2.2.1, a0.2.2.2.1, a0.2.2.2.2.1, a0.2.2.2.2.2.1, a0.2.2.2.2.2.2.1, a0.2.2.2.2.2.2.2.1, a0.2.2.2.2.2.2.2.2.1, a0.2.2.2.2.2.2.2.2.2.1, a0.2.2.2.2.2.2.2.2.2.2.1, a0.2.2.2.2.2.2.2.2.2.2.2.1, zs18, a0.2.2.2.2.2.2.2.2.2.2.2.2.2.1, a0.2.2.2.2.2.2.2.2.2.2.2.2.2.2)
def F_impl_Agent_drop : Fn := ⟨[.ptr cAgent true, .val false cNI false], [], fun a => impl_Agent_drop a.1 a.2⟩
theorem m_impl_Agent_drop : Meets Tryz.prog 318 F_impl_Agent_drop := mkM g_268 318 Tryz.f318 [] F_impl_Agent_drop Tryz.func318 (by kernel_rfl) (by kernel_rfl) (by kernel_rfl)
def fns_318 : List (FuncId × Fn) := (318, F_impl_Agent_drop) :: fns_268
theorem g_318 : Good Tryz.prog ⟨tis, fns_318, [], false⟩ := g_268.cons m_impl_Agent_drop
def impl_Agent_begin (a0 : Agent) (k1 : Int) : Option Agent :=
 (ix a0.2.2.2.2.2.2.2.2.2.2.2.2.1.length k1).bind fun j10 =>
 (impl_copyBridge (a0.1, a0.2.1, a0.2.2.1, a0.2.2.2.1, a0.2.2.2.2.1, a0.2.2.2.2.2.1, a0.2.2.2.2.2.2.1, a0.2.2.2.2.2.2.2.1, a0.2.2.2.2.2.2.2.2.1, a0.2.2.2.2.2.2.2.2.2.1, a0.2.2.2.2.2.2.2.2.2.2.1)).bind fun t18 =>
 (a0.2.2.2.2.2.2.2.2.2.2.2.2.1[j10]?).bind fun x =>
 ((a0.2.2.2.2.2.2.2.2.2.2.2.2.1.set j10 (x.1, x.2.1, 1, x.2.2.2.1, x.2.2.2.2.1, x.2.2.2.2.2.1, x.2.2.2.2.2.2.1, x.2.2.2.2.2.2.2.1, x.2.2.2.2.2.2.2.2.1, x.2.2.2.2.2.2.2.2.2.1, x.2.2.2.2.2.2.2.2.2.2.1, x.2.2.2.2.2.2.2.2.2.2.2.1, x.2.2.2.2.2.2.2.2.2.2.2.2.1, x.2.2.2.2.2.2.2.2.2.2.2.2.2.1, x.2.2.2.2.2.2.2.2.2.2.2.2.2.2.1, x.2.2.2.2.2.2.2.2.2.2.2.2.2.2.2.1, x.2.2.2.2.2.2.2.2.2.2.2.2.2.2.2.2.1, x.2.2.2.2.2.2.2.2.2.2.2.2.2.2.2.2.2.1, x.2.2.2.2.2.2.2.2.2.2.2.2.2.2.2.2.2.2.1, x.2.2.2.2.2.2.2.2.2.2.2.2.2.2.2.2.2.2.2.1, x.2.2.2.2.2.2.2.2.2.2.2.2.2.2.2.2.2.2.2.2))[j10]?).bind fun x_1 =>
 (((a0.2.2.2.2.2.2.2.2.2.2.2.2.1.set j10 (x.1, x.2.1, 1, x.2.2.2.1, x.2.2.2.2.1, x.2.2.2.2.2.1, x.2.2.2.2.2.2.1, x.2.2.2.2.2.2.2.1, x.2.2.2.2.2.2.2.2.1, x.2.2.2.2.2.2.2.2.2.1, x.2.2.2.2.2.2.2.2.2.2.1, x.2.2.2.2.2.2.2.2.2.2.2.1, x.2.2.2.2.2.2.2.2.2.2.2.2.1, x.2.2.2.2.2.2.2.2.2.2.2.2.2.1, x.2.2.2.2.2.2.2.2.2.2.2.2.2.2.1, x.2.2.2.2.2.2.2.2.2.2.2.2.2.2.2.1, x.2.2.2.2.2.2.2.2.2.2.2.2.2.2.2.2.1, x.2.2.2.2.2.2.2.2.2.2.2.2.2.2.2.2.2.1, x.2.2.2.2.2.2.2.2.2.2.2.2.2.2.2.2.2.2.1, x.2.2.2.2.2.2.2.2.2.2.2.2.2.2.2.2.2.2.2.1, x.2.2.2.2.2.2.2.2.2.2.2.2.2.2.2.2.2.2.2.2)).set j10 (x_1.1, x_1.2.1, x_1.2.2.1, x_1.2.2.2.1, x_1.2.2.2.2.1, x_1.2.2.2.2.2.1, x_1.2.2.2.2.2.2.1, x_1.2.2.2.2.2.2.2.1, x_1.2.2.2.2.2.2.2.2.1, x_1.2.2.2.2.2.2.2.2.2.1, x_1.2.2.2.2.2.2.2.2.2.2.1, x_1.2.2.2.2.2.2.2.2.2.2.2.1, x_1.2.2.2.2.2.2.2.2.2.2.2.2.1, x_1.2.2.2.2.2.2.2.2.2.2.2.2.2.1, x_1.2.2.2.2.2.2.2.2.2.2.2.2.2.2.1, x_1.2.2.2.2.2.2.2.2.2.2.2.2.2.2.2.1, x_1.2.2.2.2.2.2.2.2.2.2.2.2.2.2.2.2.1, x_1.2.2.2.2.2.2.2.2.2.2.2.2.2.2.2.2.2.1, x_1.2.2.2.2.2.2.2.2.2.2.2.2.2.2.2.2.2.2.1, 0, x_1.2.2.2.2.2.2.2.2.2.2.2.2.2.2.2.2.2.2.2.2))[j10]?).bind fun x_2 =>
 some (a0.1, a0.2.1, a0.2.2.1, a0.2.2.2.1, a0.2.2.2.2.1, a0.2.2.2.2.2.1, a0.2.2.2.2.2.2.1, a0.2.2.2.2.2.2.2.1, a0.2.2.2.2.2.2.2.2.1, a0.2.2.2.2.2.2.2.2.2.1, a0.2.2.2.2.2.2.2.2.2.2.1, a0.2.2.2.2.2.2.2.2.2.2.2.1, ((a0.2.2.2.2.2.2.2.2.2.2.2.2.1.set j10 (x.1, x.2.1, 1, x.2.2.2.1, x.2.2.2.2.1, x.2.2.2.2.2.1, x.2.2.2.2.2.2.1, x.2.2.2.2.2.2.2.1, x.2.2.2.2.2.2.2.2.1, x.2.2.2.2.2.2.2.2.2.1, x.2.2.2.2.2.2.2.2.2.2.1, x.2.2.2.2.2.2.2.2.2.2.2.1, x.2.2.2.2.2.2.2.2.2.2.2.2.1, x.2.2.2.2.2.2.2.2.2.2.2.2.2.1, x.2.2.2.2.2.2.2.2.2.2.2.2.2.2.1, x.2.2.2.2.2.2.2.2.2.2.2.2.2.2.2.1, x.2.2.2.2.2.2.2.2.2.2.2.2.2.2.2.2.1, x.2.2.2.2.2.2.2.2.2.2.2.2.2.2.2.2.2.1, x.2.2.2.2.2.2.2.2.2.2.2.2.2.2.2.2.2.2.1, x.2.2.2.2.2.2.2.2.2.2.2.2.2.2.2.2.2.2.2.1, x.2.2.2.2.2.2.2.2.2.2.2.2.2.2.2.2.2.2.2.2)).set j10 (x_1.1, x_1.2.1, x_1.2.2.1, x_1.2.2.2.1, x_1.2.2.2.2.1, x_1.2.2.2.2.2.1, x_1.2.2.2.2.2.2.1, x_1.2.2.2.2.2.2.2.1, x_1.2.2.2.2.2.2.2.2.1, x_1.2.2.2.2.2.2.2.2.2.1, x_1.2.2.2.2.2.2.2.2.2.2.1, x_1.2.2.2.2.2.2.2.2.2.2.2.1, x_1.2.2.2.2.2.2.2.2.2.2.2.2.1, x_1.2.2.2.2.2.2.2.2.2.2.2.2.2.1, x_1.2.2.2.2.2.2.2.2.2.2.2.2.2.2.1, x_1.2.2.2.2.2.2.2.2.2.2.2.2.2.2.2.1, x_1.2.2.2.2.2.2.2.2.2.2.2.2.2.2.2.2.1, x_1.2.2.2.2.2.2.2.2.2.2.2.2.2.2.2.2.2.1, x_1.2.2.2.2.2.2.2.2.2.2.2.2.2.2.2.2.2.2.1, 0, x_1.2.2.2.2.2.2.2.2.2.2.2.2.2.2.2.2.2.2.2.2)).set j10 (x_2.1, x_2.2.1, x_2.2.2.1, x_2.2.2.2.1, x_2.2.2.2.2.1, x_2.2.2.2.2.2.1, x_2.2.2.2.2.2.2.1, x_2.2.2.2.2.2.2.2.1, t18.1, t18.2.1, t18.2.2.1, t18.2.2.2.1, t18.2.2.2.2.1, t18.2.2.2.2.2.1, t18.2.2.2.2.2.2.1, t18.2.2.2.2.2.2.2.1, t18.2.2.2.2.2.2.2.2.1, t18.2.2.2.2.2.2.2.2.2.1, t18.2.2.2.2.2.2.2.2.2.2, x_2.2.2.2.2.2.2.2.2.2.2.2.2.2.2.2.2.2.2.2.1, x_2.2.2.2.2.2.2.2.2.2.2.2.2.2.2.2.2.2.2.2.2), a0.2.2.2.2.2.2.2.2.2.2.2.2.2.1, a0.2.2.2.2.2.2.2.2.2.2.2.2.2.2)
def F_impl_Agent_begin : Fn := ⟨[.ptr cAgent true, .val false cNI false], [], fun a => impl_Agent_begin a.1 a.2⟩
theorem m_impl_Agent_begin : Meets Tryz.prog 319 F_impl_Agent_begin := mkM g_318 319 Tryz.f319 [] F_impl_Agent_begin Tryz.func319 (by kernel_rfl) (by kernel_rfl) (by kernel_rfl)
def fns_319 : List (FuncId × Fn) := (319, F_impl_Agent_begin) :: fns_318
theorem g_319 : Good Tryz.prog ⟨tis, fns_319, [], false⟩ := g_318.cons m_impl_Agent_begin
def impl_Agent_read (p0 : Agent) (i1 : Int) : Option Agent :=
 (ix p0.2.2.2.2.2.2.2.2.2.2.2.2.1.length i1).bind fun j16 =>
 (p0.2.2.2.2.2.2.2.2.2.2.2.2.1[j16]?).bind fun x18 =>
 (impl_GetMsg p0.2.2.2.2.2.2.2.2.2.2.2.1 x18.2.1).bind fun t19 =>
 cond (t19.2 == 3)
 ((impl_more p0.2.2.2.2.2.2.2.2.1).bind fun t42 =>
 (impl_Agent_drop (p0.1, p0.2.1, p0.2.2.1, p0.2.2.2.1, p0.2.2.2.2.1, p0.2.2.2.2.2.1, p0.2.2.2.2.2.2.1, p0.2.2.2.2.2.2.2.1, t42, p0.2.2.2.2.2.2.2.2.2.1, p0.2.2.2.2.2.2.2.2.2.2.1, p0.2.2.2.2.2.2.2.2.2.2.2.1, p0.2.2.2.2.2.2.2.2.2.2.2.2.1, p0.2.2.2.2.2.2.2.2.2.2.2.2.2.1, p0.2.2.2.2.2.2.2.2.2.2.2.2.2.2) i1).bind fun t48 =>
 some t48)
 ((cond (t19.2 != 0) (some true) (some (t19.1.1 == 162))).bind fun t56 =>
 cond t56
 ((impl_more p0.2.2.2.2.2.2.2.1).bind fun t63 =>
 (impl_Agent_drop (p0.1, p0.2.1, p0.2.2.1, p0.2.2.2.1, p0.2.2.2.2.1, p0.2.2.2.2.2.1, p0.2.2.2.2.2.2.1, t63, p0.2.2.2.2.2.2.2.2.1, p0.2.2.2.2.2.2.2.2.2.1, p0.2.2.2.2.2.2.2.2.2.2.1, p0.2.2.2.2.2.2.2.2.2.2.2.1, p0.2.2.2.2.2.2.2.2.2.2.2.2.1, p0.2.2.2.2.2.2.2.2.2.2.2.2.2.1, p0.2.2.2.2.2.2.2.2.2.2.2.2.2.2) i1).bind fun t69 =>
 some t69)
 ((ix p0.2.2.2.2.2.2.2.2.2.2.2.2.1.length i1).bind fun j28 =>
 (p0.2.2.2.2.2.2.2.2.2.2.2.2.1[j28]?).bind fun x =>
 (impl_Agent_begin (p0.1, p0.2.1, p0.2.2.1, p0.2.2.2.1, p0.2.2.2.2.1, p0.2.2.2.2.2.1, p0.2.2.2.2.2.2.1, p0.2.2.2.2.2.2.2.1, p0.2.2.2.2.2.2.2.2.1, p0.2.2.2.2.2.2.2.2.2.1, p0.2.2.2.2.2.2.2.2.2.2.1, p0.2.2.2.2.2.2.2.2.2.2.2.1, p0.2.2.2.2.2.2.2.2.2.2.2.2.1.set j28 (x.1, x.2.1, x.2.2.1, t19.1.1, t19.1.2.1, t19.1.2.2.1, t19.1.2.2.2.1, t19.1.2.2.2.2, x.2.2.2.2.2.2.2.2.1, x.2.2.2.2.2.2.2.2.2.1, x.2.2.2.2.2.2.2.2.2.2.1, x.2.2.2.2.2.2.2.2.2.2.2.1, x.2.2.2.2.2.2.2.2.2.2.2.2.1, x.2.2.2.2.2.2.2.2.2.2.2.2.2.1, x.2.2.2.2.2.2.2.2.2.2.2.2.2.2.1, x.2.2.2.2.2.2.2.2.2.2.2.2.2.2.2.1, x.2.2.2.2.2.2.2.2.2.2.2.2.2.2.2.2.1, x.2.2.2.2.2.2.2.2.2.2.2.2.2.2.2.2.2.1, x.2.2.2.2.2.2.2.2.2.2.2.2.2.2.2.2.2.2.1, x.2.2.2.2.2.2.2.2.2.2.2.2.2.2.2.2.2.2.2.1, x.2.2.2.2.2.2.2.2.2.2.2.2.2.2.2.2.2.2.2.2), p0.2.2.2.2.2.2.2.2.2.2.2.2.2.1, p0.2.2.2.2.2.2.2.2.2.2.2.2.2.2) i1).bind fun t32 =>
 some t32))
def F_impl_Agent_read : Fn := ⟨[.ptr cAgent true, .val false cNI false], [], fun a => impl_Agent_read a.1 a.2⟩
theorem m_impl_Agent_read : Meets Tryz.prog 235 F_impl_Agent_read := mkM g_319 235 Tryz.f235 [] F_impl_Agent_read Tryz.func235 (by kernel_rfl) (by kernel_rfl) (by kernel_rfl)
def fns_235 : List (FuncId × Fn) := (235, F_impl_Agent_read) :: fns_319
theorem g_235 : Good Tryz.prog ⟨tis, fns_235, [], false⟩ := g_319.cons m_impl_Agent_read
def impl_LessOid_l0 (a0 : List Int) (b1 : List Int) (i5 : Int) : Option (Int ⊕ (Unit ⊕ Bool)) :=
 (cond (decide (i5 < (a0.length : Int))) (some (decide (i5 < (b1.length : Int)))) (some false)).bind fun t15 =>
 cond t15
 ((at? a0 i5).bind fun x20 =>
 (at? b1 i5).bind fun x24 =>
 cond (x20 != x24)
 ((at? a0 i5).bind fun x29 =>
 (at? b1 i5).bind fun x33 =>
 some (.inr (.inr (decide (x29 < x33)))))
 (some (.inl (w64 (i5 + 1)))))
 (some (.inr (.inl ())))
def impl_LessOid (a0 : List Int) (b1 : List Int) : Option Bool :=
 (loop (fun z => impl_LessOid_l0 a0 b1 z) 0).bind (Sum.elim (fun d =>
 let t4 := decide ((a0.length : Int) < (b1.length : Int))
 some t4) (fun r => some r))
def F_impl_LessOid : Fn := ⟨[.val false cNN false, .val false cNN false], [.val false cNB true], fun a => impl_LessOid a.1 a.2⟩
def a_impl_LessOid : List (Nat × LoopAnn) := [(0, ⟨⟨(5, false, [dI]) :: us 11 4 [], []⟩,
 ⟨[], []⟩, some ⟨[(4, false, [dB])], []⟩⟩)]
theorem m_impl_LessOid : Meets Tryz.prog 87 F_impl_LessOid := mkM g_235 87 Tryz.f87 a_impl_LessOid F_impl_LessOid Tryz.func87 (by kernel_rfl) (by kernel_rfl) (by kernel_rfl)
def fns_87 : List (FuncId × Fn) := (87, F_impl_LessOid) :: fns_235
theorem g_87 : Good Tryz.prog ⟨tis, fns_87, [], false⟩ := g_235.cons m_impl_LessOid
def impl_MibNext_l0 (o1 : List Int) (t8 : List Bind) (t10 : Int) (b1 : Int) (b2 : Int) (b3 : List UInt8) (b0_1 : List Int) (b4 : List Int) : Option ((Int × Int × Int × List UInt8 × List Int × List Int) ⊕ ((Int × Int × List UInt8 × List Int × List Int) ⊕ (List Int × Int × Int × List UInt8 × List Int))) :=
 cond (decide (t10 < (t8.length : Int)))
 ((at? t8 t10).bind fun x12 =>
 (impl_LessOid o1 x12.1).bind fun t17 =>
 cond t17
 (some (.inr (.inr x12)))
 (some (.inl (w64 (t10 + 1), b1, b2, b3, b0_1, b4))))
 (some (.inr (.inl (b1, b2, b3, b0_1, b4))))
def impl_MibNext (b0 : Bridge) (o1 : List Int) : Option Bind :=
 (impl_MibList b0).bind fun t8 =>
 (loop (fun z => impl_MibNext_l0 o1 t8 z.1 z.2.1 z.2.2.1 z.2.2.2.1 z.2.2.2.2.1 z.2.2.2.2.2) (0, 0, 0, [], [], [])).bind (Sum.elim (fun d =>
 (impl_copyInts o1).bind fun t21 =>
 some (t21, 130, 0, [], [])) (fun r => some r))
def F_impl_MibNext : Fn := ⟨[.val true cBridge false, .val false cNN false], [.val true cBind false], fun a => impl_MibNext a.1 a.2⟩
def a_impl_MibNext : List (Nat × LoopAnn) := [(0, ⟨⟨[(10, false, [dI])], [(2048, .box [.own 1000000000, dI, dI, dS, .own 1000000001]), (1000000000, .root cNI true), (1000000001, .root cNI true)]⟩,
 ⟨[], [(2048, .box [.own 1000000300, dI, dI, dS, .own 1000000301]), (1000000300, .root cNI true), (1000000301, .root cNI true)]⟩, some ⟨[], [(2048, .box [.dat (.sl cNI), dI, dI, dS, .dat (.sl cNI)])]⟩⟩)]
theorem m_impl_MibNext : Meets Tryz.prog 20 F_impl_MibNext := mkM g_87 20 Tryz.f20 a_impl_MibNext F_impl_MibNext Tryz.func20 (by kernel_rfl) (by kernel_rfl) (by kernel_rfl)
def fns_20 : List (FuncId × Fn) := (20, F_impl_MibNext) :: fns_87
theorem g_20 : Good Tryz.prog ⟨tis, fns_20, [], false⟩ := g_87.cons m_impl_MibNext
def impl_Fits (p0 : Pdu) : Option Bool :=
 (impl_PutPdu p0).bind fun t4 =>
 (impl_in (t4.length : Int) 1 120).bind fun t6 =>
 some t6
def F_impl_Fits : Fn := ⟨[.val true cPdu false], [.val false cNB true], fun a => impl_Fits a⟩
theorem m_impl_Fits : Meets Tryz.prog 22 F_impl_Fits := mkM g_20 22 Tryz.f22 [] F_impl_Fits Tryz.func22 (by kernel_rfl) (by kernel_rfl) (by kernel_rfl)
def fns_22 : List (FuncId × Fn) := (22, F_impl_Fits) :: fns_20
theorem g_22 : Good Tryz.prog ⟨tis, fns_22, [], false⟩ := g_20.cons m_impl_Fits
def impl_numbered (o0 : List Int) (low1 : Int) (high2 : Int) (head3 : List Int) : Option Bool :=
 cond ((o0.length : Int) == (w64 ((head3.length : Int) + 4)))
 ((cut o0 0 (w64 ((o0.length : Int) - 1))).bind fun t20 =>
 (app ([1, 3, 1] : List Int) head3).bind fun zs23 =>
 (impl_SameOid t20 zs23).bind fun t24 =>
 (cond t24
 ((at? o0 (w64 ((o0.length : Int) - 1))).bind fun x31 =>
 (impl_in x31 low1 high2).bind fun t35 =>
 some t35)
 (some false)).bind fun t36 =>
 some t36)
 ((some false).bind fun t36_1 =>
 some t36_1)
def F_impl_numbered : Fn := ⟨[.val false cNN false, .val false cNI false, .val false cNI false, .val false cNN false], [.val false cNB true], fun a => impl_numbered a.1 a.2.1 a.2.2.1 a.2.2.2⟩
theorem m_impl_numbered : Meets Tryz.prog 307 F_impl_numbered := mkM g_22 307 Tryz.f307 [] F_impl_numbered Tryz.func307 (by kernel_rfl) (by kernel_rfl) (by kernel_rfl)
def fns_307 : List (FuncId × Fn) := (307, F_impl_numbered) :: fns_22
theorem g_307 : Good Tryz.prog ⟨tis, fns_307, [], false⟩ := g_22.cons m_impl_numbered
def impl_canSet (b0 : Bridge) (o1 : List Int) : Option Bool :=
 (impl_numbered o1 1 1 ([1] : List Int)).bind fun t11 =>
 (cond t11
 (some true)
 ((impl_numbered o1 1 (b0.2.2.1.length : Int) ([2, 2] : List Int)).bind fun t16 =>
 some t16)).bind fun t17 =>
 (cond t17
 (some true)
 ((impl_numbered o1 1 (b0.2.2.1.length : Int) ([2, 4] : List Int)).bind fun t22 =>
 some t22)).bind fun t23 =>
 (cond t23
 (some true)
 ((impl_numbered o1 1 99 ([3, 1] : List Int)).bind fun t27 =>
 some t27)).bind fun t28 =>
 cond t28
 (some true)
 ((impl_numbered o1 1 99 ([3, 2] : List Int)).bind fun t31 =>
 (cond t31
 (some true)
 ((impl_numbered o1 1 99 ([3, 3] : List Int)).bind fun t35 =>
 some t35)).bind fun t36 =>
 (cond t36
 ((at? o1 5).bind fun x41 =>
 (impl_RowAt (b0.2.2.2.2.1, b0.2.2.2.2.2.1) x41).bind fun t43 =>
 some (decide (t43 ≥ 0)))
 (some false)).bind fun t45 =>
 some t45)
def F_impl_canSet : Fn := ⟨[.val true cBridge false, .val false cNN false], [.val false cNB true], fun a => impl_canSet a.1 a.2⟩
theorem m_impl_canSet : Meets Tryz.prog 203 F_impl_canSet := mkM g_307 203 Tryz.f203 [] F_impl_canSet Tryz.func203 (by kernel_rfl) (by kernel_rfl) (by kernel_rfl)
def fns_203 : List (FuncId × Fn) := (203, F_impl_canSet) :: fns_307
theorem g_203 : Good Tryz.prog ⟨tis, fns_203, [], false⟩ := g_307.cons m_impl_canSet
def impl_withRow_l0 (v0 : Vtab) (r1 : Vrow) (k7 : Int) : Option (Int ⊕ Int) :=
 (cond (decide (k7 < (v0.1.length : Int)))
 ((at? v0.1 k7).bind fun x31 =>
 some (decide (x31.1 ≤ r1.1)))
 (some false)).bind fun t37 =>
 cond t37 (some (.inl (w64 (k7 + 1)))) (some (.inr k7))
def impl_withRow (v0 : Vtab) (r1 : Vrow) : Option Vtab :=
 (impl_copyVtab v0).bind fun t9 =>
 (impl_RowAt v0 r1.1).bind fun t13 =>
 cond (decide (t13 ≥ 0))
 ((ix t9.1.length t13).bind fun j20 =>
 (t9.1[j20]?).bind fun x =>
 some (t9.1.set j20 r1, t9.2))
 ((loop (fun z => impl_withRow_l0 v0 r1 z) 0).bind fun d =>
 (cut v0.1 0 d).bind fun t43 =>
 (app [] t43).bind fun zs44 =>
 (app zs44 [r1]).bind fun zs47 =>
 (cut v0.1 d (v0.1.length : Int)).bind fun t51 =>
 (app zs47 t51).bind fun zs52 =>
 some (zs52, t9.2))
def F_impl_withRow : Fn := ⟨[.val true cVtab false, .val true cVrow false], [.val true cVtab true], fun a => impl_withRow a.1 a.2⟩
def a_impl_withRow : List (Nat × LoopAnn) := [(0, ⟨⟨(7, false, [dI]) :: us 28 9 [], []⟩,
 ⟨[(7, false, [dI])], []⟩, none⟩)]
theorem m_impl_withRow : Meets Tryz.prog 353 F_impl_withRow := mkM g_203 353 Tryz.f353 a_impl_withRow F_impl_withRow Tryz.func353 (by kernel_rfl) (by kernel_rfl) (by kernel_rfl)
def fns_353 : List (FuncId × Fn) := (353, F_impl_withRow) :: fns_203
theorem g_353 : Good Tryz.prog ⟨tis, fns_353, [], false⟩ := g_203.cons m_impl_withRow
def impl_withoutRow (v0 : Vtab) (id1 : Int) : Option Vtab :=
 (impl_copyVtab v0).bind fun t8 =>
 (impl_RowAt v0 id1).bind fun t11 =>
 cond (decide (t11 ≥ 0))
 ((cut v0.1 0 t11).bind fun t17 =>
 (app [] t17).bind fun zs18 =>
 (cut v0.1 (w64 (t11 + 1)) (v0.1.length : Int)).bind fun t23 =>
 (app zs18 t23).bind fun zs24 =>
 some (zs24, t8.2))
 (some t8)
def F_impl_withoutRow : Fn := ⟨[.val true cVtab false, .val false cNI false], [.val true cVtab true], fun a => impl_withoutRow a.1 a.2⟩
theorem m_impl_withoutRow : Meets Tryz.prog 354 F_impl_withoutRow := mkM g_353 354 Tryz.f354 [] F_impl_withoutRow Tryz.func354 (by kernel_rfl) (by kernel_rfl) (by kernel_rfl)
def fns_354 : List (FuncId × Fn) := (354, F_impl_withoutRow) :: fns_353
theorem g_354 : Good Tryz.prog ⟨tis, fns_354, [], false⟩ := g_353.cons m_impl_withoutRow
def impl_Bridge_setRow (p0 : Bridge) (i1 : Int) (a2 : Int) (a3 : Int) : Option (Bridge × Int) :=
 (impl_RowAt (p0.2.2.2.2.1, p0.2.2.2.2.2.1) a2).bind fun t15 =>
 cond (i1 == 1)
 ((cond (a3 == 4) (some (decide (t15 < 0))) (some false)).bind fun t24 =>
 (cond t24 (some (decide ((p0.2.2.2.2.1.length : Int) < 6))) (some false)).bind fun t33 =>
 cond t33
 ((impl_withRow (p0.2.2.2.2.1, p0.2.2.2.2.2.1) (a2, 0, 0)).bind fun t41 =>
 some ((p0.1, p0.2.1, p0.2.2.1, p0.2.2.2.1, t41.1, t41.2, p0.2.2.2.2.2.2.1, p0.2.2.2.2.2.2.2.1, p0.2.2.2.2.2.2.2.2.1, p0.2.2.2.2.2.2.2.2.2.1, p0.2.2.2.2.2.2.2.2.2.2), 0))
 ((cond (a3 == 6) (some (decide (t15 ≥ 0))) (some false)).bind fun t50 =>
 cond t50
 ((impl_withoutRow (p0.2.2.2.2.1, p0.2.2.2.2.2.1) a2).bind fun t57 =>
 some ((p0.1, p0.2.1, p0.2.2.1, p0.2.2.2.1, t57.1, t57.2, p0.2.2.2.2.2.2.1, p0.2.2.2.2.2.2.2.1, p0.2.2.2.2.2.2.2.2.1, p0.2.2.2.2.2.2.2.2.2.1, p0.2.2.2.2.2.2.2.2.2.2), 0))
 (some (p0, 2))))
 ((impl_allPorts (p0.2.2.1.length : Int)).bind fun t66 =>
 (impl_in a3 0 t66).bind fun t67 =>
 cond (!t67)
 (some (p0, 2))
 (cond (i1 == 2)
 ((ix p0.2.2.2.2.1.length t15).bind fun j78 =>
 (p0.2.2.2.2.1[j78]?).bind fun x =>
 some ((p0.1, p0.2.1, p0.2.2.1, p0.2.2.2.1, p0.2.2.2.2.1.set j78 (x.1, a3, x.2.2), p0.2.2.2.2.2.1, p0.2.2.2.2.2.2.1, p0.2.2.2.2.2.2.2.1, p0.2.2.2.2.2.2.2.2.1, p0.2.2.2.2.2.2.2.2.2.1, p0.2.2.2.2.2.2.2.2.2.2), 0))
 ((ix p0.2.2.2.2.1.length t15).bind fun j87 =>
 (p0.2.2.2.2.1[j87]?).bind fun x_1 =>
 some ((p0.1, p0.2.1, p0.2.2.1, p0.2.2.2.1, p0.2.2.2.2.1.set j87 (x_1.1, x_1.2.1, a3), p0.2.2.2.2.2.1, p0.2.2.2.2.2.2.1, p0.2.2.2.2.2.2.2.1, p0.2.2.2.2.2.2.2.2.1, p0.2.2.2.2.2.2.2.2.2.1, p0.2.2.2.2.2.2.2.2.2.2), 0))))
def F_impl_Bridge_setRow : Fn := ⟨[.ptr cBridge true, .val false cNI false, .val false cNI false, .val false cNI false], [.val false cNI true], fun a => impl_Bridge_setRow a.1 a.2.1 a.2.2.1 a.2.2.2⟩
theorem m_impl_Bridge_setRow : Meets Tryz.prog 308 F_impl_Bridge_setRow := mkM g_354 308 Tryz.f308 [] F_impl_Bridge_setRow Tryz.func308 (by kernel_rfl) (by kernel_rfl) (by kernel_rfl)
def fns_308 : List (FuncId × Fn) := (308, F_impl_Bridge_setRow) :: fns_354
theorem g_308 : Good Tryz.prog ⟨tis, fns_308, [], false⟩ := g_354.cons m_impl_Bridge_setRow
def impl_Bridge_setThing (p0 : Bridge) (i1 : List Int) (a2 : Val) : Option (Bridge × Int) :=
 (at? i1 3).bind fun x9 =>
 (cond (x9 == 1) (some (a2.1 != 4)) (some false)).bind fun t17 =>
 (cond t17
 (some true)
 ((cond (!(x9 == 1)) (some (a2.1 != 2)) (some false)).bind fun t25 =>
 some t25)).bind fun t26 =>
 cond t26
 (some (p0, 1))
 (cond (x9 == 1)
 (cond (decide ((a2.2.2.1.length : Int) > 10))
 (some (p0, 2))
 (some ((p0.1, a2.2.2.1, p0.2.2.1, p0.2.2.2.1, p0.2.2.2.2.1, p0.2.2.2.2.2.1, p0.2.2.2.2.2.2.1, p0.2.2.2.2.2.2.2.1, p0.2.2.2.2.2.2.2.2.1, p0.2.2.2.2.2.2.2.2.2.1, p0.2.2.2.2.2.2.2.2.2.2), 0)))
 ((at? i1 3).bind fun x52 =>
 cond (x52 == 3)
 ((at? i1 4).bind fun x57 =>
 (at? i1 5).bind fun x60 =>
 (impl_Bridge_setRow p0 x57 x60 a2.2.1).bind fun t64 =>
 some t64)
 ((at? i1 4).bind fun x67 =>
 cond (x67 == 2)
 ((impl_in a2.2.1 1 1000).bind fun t72 =>
 cond (!t72)
 (some (p0, 2))
 ((at? i1 5).bind fun x79 =>
 (ix p0.2.2.1.length (w64 (x79 - 1))).bind fun j84 =>
 (p0.2.2.1[j84]?).bind fun x =>
 some ((p0.1, p0.2.1, p0.2.2.1.set j84 (x.1, a2.2.1, x.2.2.1, x.2.2.2.1, x.2.2.2.2.1, x.2.2.2.2.2.1, x.2.2.2.2.2.2.1, x.2.2.2.2.2.2.2), p0.2.2.2.1, p0.2.2.2.2.1, p0.2.2.2.2.2.1, p0.2.2.2.2.2.2.1, p0.2.2.2.2.2.2.2.1, p0.2.2.2.2.2.2.2.2.1, p0.2.2.2.2.2.2.2.2.2.1, p0.2.2.2.2.2.2.2.2.2.2), 0)))
 ((at? i1 5).bind fun x33 =>
 (ix p0.2.2.2.2.2.1.length (w64 (x33 - 1))).bind fun j38 =>
 (p0.2.2.2.2.2.1[j38]?).bind fun x_1 =>
 some ((p0.1, p0.2.1, p0.2.2.1, p0.2.2.2.1, p0.2.2.2.2.1, p0.2.2.2.2.2.1.set j38 a2.2.1, p0.2.2.2.2.2.2.1, p0.2.2.2.2.2.2.2.1, p0.2.2.2.2.2.2.2.2.1, p0.2.2.2.2.2.2.2.2.2.1, p0.2.2.2.2.2.2.2.2.2.2), 0)))))
def F_impl_Bridge_setThing : Fn := ⟨[.ptr cBridge true, .val false cNN false, .val true cVal false], [.val false cNI true], fun a => impl_Bridge_setThing a.1 a.2.1 a.2.2⟩
theorem m_impl_Bridge_setThing : Meets Tryz.prog 204 F_impl_Bridge_setThing := mkM g_308 204 Tryz.f204 [] F_impl_Bridge_setThing Tryz.func204 (by kernel_rfl) (by kernel_rfl) (by kernel_rfl)
def fns_204 : List (FuncId × Fn) := (204, F_impl_Bridge_setThing) :: fns_308
theorem g_204 : Good Tryz.prog ⟨tis, fns_204, [], false⟩ := g_308.cons m_impl_Bridge_setThing
def impl_entAt_l0 (l0 : List Fent) (tag1 : Int) (mac2 : Int) (t11 : Int) : Option (Int ⊕ (Unit ⊕ Int)) :=
 cond (decide (t11 < (l0.length : Int)))
 ((at? l0 t11).bind fun x14 =>
 (cond (x14.1 == tag1) (some (x14.2.1 == mac2)) (some false)).bind fun t25 =>
 cond t25 (some (.inr (.inr t11))) (some (.inl (w64 (t11 + 1)))))
 (some (.inr (.inl ())))
def impl_entAt (l0 : List Fent) (tag1 : Int) (mac2 : Int) : Option Int :=
 (loop (fun z => impl_entAt_l0 l0 tag1 mac2 z) 0).bind (Sum.elim (fun d =>
 some (-1)) (fun r => some r))
def F_impl_entAt : Fn := ⟨[.val false (.one (.sl cFent)) false, .val false cNI false, .val false cNI false], [.val false cNI true], fun a => impl_entAt a.1 a.2.1 a.2.2⟩
def a_impl_entAt : List (Nat × LoopAnn) := [(0, ⟨⟨(11, false, [dI]) :: us 21 4 [], []⟩,
 ⟨[], []⟩, some ⟨[(6, false, [dI])], []⟩⟩)]
theorem m_impl_entAt : Meets Tryz.prog 309 F_impl_entAt := mkM g_204 309 Tryz.f309 a_impl_entAt F_impl_entAt Tryz.func309 (by kernel_rfl) (by kernel_rfl) (by kernel_rfl)
def fns_309 : List (FuncId × Fn) := (309, F_impl_entAt) :: fns_204
theorem g_309 : Good Tryz.prog ⟨tis, fns_309, [], false⟩ := g_204.cons m_impl_entAt
def impl_canRead (b0 : Bridge) (o1 : List Int) : Option Bool :=
 (impl_numbered o1 2 5 ([1] : List Int)).bind fun t11 =>
 (cond t11
 (some true)
 ((impl_numbered o1 1 (b0.2.2.1.length : Int) ([2, 1] : List Int)).bind fun t16 =>
 some t16)).bind fun t17 =>
 (cond t17
 (some true)
 ((impl_numbered o1 1 (b0.2.2.1.length : Int) ([2, 3] : List Int)).bind fun t22 =>
 some t22)).bind fun t23 =>
 cond t23
 (some true)
 ((cond ((o1.length : Int) == 7)
 ((cut o1 0 5).bind fun t29 =>
 (impl_SameOid t29 ([1, 3, 1, 4, 1] : List Int)).bind fun t31 =>
 some t31)
 (some false)).bind fun t32 =>
 (cond t32
 ((at? o1 5).bind fun x37 =>
 (at? o1 6).bind fun x40 =>
 (impl_entAt b0.2.2.2.1 x37 x40).bind fun t42 =>
 some (decide (t42 ≥ 0)))
 (some false)).bind fun t44 =>
 some t44)
def F_impl_canRead : Fn := ⟨[.val true cBridge false, .val false cNN false], [.val false cNB true], fun a => impl_canRead a.1 a.2⟩
theorem m_impl_canRead : Meets Tryz.prog 205 F_impl_canRead := mkM g_309 205 Tryz.f205 [] F_impl_canRead Tryz.func205 (by kernel_rfl) (by kernel_rfl) (by kernel_rfl)
def fns_205 : List (FuncId × Fn) := (205, F_impl_canRead) :: fns_309
theorem g_205 : Good Tryz.prog ⟨tis, fns_205, [], false⟩ := g_309.cons m_impl_canRead
def impl_Bridge_set (b0 : Bridge) (x1 : Bind) : Option (Bridge × Int) :=
 (impl_canSet b0 x1.1).bind fun t11 =>
 cond t11
 ((impl_Bridge_setThing b0 x1.1 x1.2).bind fun t17 =>
 some t17)
 ((impl_canRead b0 x1.1).bind fun t24 =>
 cond t24 (some (b0, 4)) (some (b0, 3)))
def F_impl_Bridge_set : Fn := ⟨[.ptr cBridge true, .val true cBind false], [.val false cNI true], fun a => impl_Bridge_set a.1 a.2⟩
theorem m_impl_Bridge_set : Meets Tryz.prog 90 F_impl_Bridge_set := mkM g_205 90 Tryz.f90 [] F_impl_Bridge_set Tryz.func90 (by kernel_rfl) (by kernel_rfl) (by kernel_rfl)
def fns_90 : List (FuncId × Fn) := (90, F_impl_Bridge_set) :: fns_205
theorem g_90 : Good Tryz.prog ⟨tis, fns_90, [], false⟩ := g_205.cons m_impl_Bridge_set
def impl_SetAll_l2 (p0 : Bridge) (t25 : Int) (x28 : Bind) (t32 : List Bind) (t34 : Int) (b0_2 : Int) (b1_2 : List UInt8) (b6_2 : Int) (b7_2 : Int) (b8_2 : Int) (b9_2 : Int) (b10_2 : Int) : Option ((Int × Int × List UInt8 × Int × Int × Int × Int × Int) ⊕ ((Int × List UInt8 × Int × Int × Int × Int × Int) ⊕ (Int × Int × Int × List UInt8 × Int × Int × Int × Int × Int × List Pt × List Fent × List Vrow × List Int))) :=
 cond (decide (t34 < (t32.length : Int)))
 ((at? t32 t34).bind fun x36 =>
 (impl_SameOid x28.1 x36.1).bind fun t42 =>
 cond t42
 ((impl_copyBridge p0).bind fun t44 =>
 some (.inr (.inr (5, w64 (t25 + 1), t44.1, t44.2.1, t44.2.2.2.2.2.2.1, t44.2.2.2.2.2.2.2.1, t44.2.2.2.2.2.2.2.2.1, t44.2.2.2.2.2.2.2.2.2.1, t44.2.2.2.2.2.2.2.2.2.2, t44.2.2.1, t44.2.2.2.1, t44.2.2.2.2.1, t44.2.2.2.2.2.1))))
 (some (.inl (w64 (t34 + 1), b0_2, b1_2, b6_2, b7_2, b8_2, b9_2, b10_2))))
 (some (.inr (.inl (b0_2, b1_2, b6_2, b7_2, b8_2, b9_2, b10_2))))
def impl_SetAll_l0 (p0 : Bridge) (i1 : List Bind) (t25 : Int) (b0 : Int) (b1 : List UInt8) (b6 : Int) (b7 : Int) (b8 : Int) (b9 : Int) (b10 : Int) (b0_1 : Int) (b1_1 : List UInt8) (b6_1 : Int) (b7_1 : Int) (b8_1 : Int) (b9_1 : Int) (b10_1 : Int) (b2 : List Pt) (b3 : List Fent) (b4 : List Vrow) (b5 : List Int) (b2_1 : List Pt) (b3_1 : List Fent) (b4_1 : List Vrow) (b5_1 : List Int) : Option ((Int × Int × List UInt8 × Int × Int × Int × Int × Int × Int × List UInt8 × Int × Int × Int × Int × Int × List Pt × List Fent × List Vrow × List Int × List Pt × List Fent × List Vrow × List Int) ⊕ ((Int × List UInt8 × Int × Int × Int × Int × Int × Int × List UInt8 × Int × Int × Int × Int × Int × List Pt × List Fent × List Vrow × List Int × List Pt × List Fent × List Vrow × List Int) ⊕ (Int × Int × Int × List UInt8 × Int × Int × Int × Int × Int × List Pt × List Fent × List Vrow × List Int))) :=
 cond (decide (t25 < (i1.length : Int)))
 ((at? i1 t25).bind fun x28 =>
 (cut i1 0 t25).bind fun t32 =>
 (loop (fun z => impl_SetAll_l2 p0 t25 x28 t32 z.1 z.2.1 z.2.2.1 z.2.2.2.1 z.2.2.2.2.1 z.2.2.2.2.2.1 z.2.2.2.2.2.2.1 z.2.2.2.2.2.2.2) (0, b0, b1, b6, b7, b8, b9, b10)).bind (Sum.elim (fun d =>
 (impl_Bridge_set (b0_1, b1_1, b2_1, b3_1, b4_1, b5_1, b6_1, b7_1, b8_1, b9_1, b10_1) x28).bind fun t49 =>
 cond (t49.2 != 0)
 ((impl_copyBridge p0).bind fun t53 =>
 some (.inr (.inr (t49.2, w64 (t25 + 1), t53.1, t53.2.1, t53.2.2.2.2.2.2.1, t53.2.2.2.2.2.2.2.1, t53.2.2.2.2.2.2.2.2.1, t53.2.2.2.2.2.2.2.2.2.1, t53.2.2.2.2.2.2.2.2.2.2, t53.2.2.1, t53.2.2.2.1, t53.2.2.2.2.1, t53.2.2.2.2.2.1))))
 (some (.inl (w64 (t25 + 1), d.1, d.2.1, d.2.2.1, d.2.2.2.1, d.2.2.2.2.1, d.2.2.2.2.2.1, d.2.2.2.2.2.2, t49.1.1, t49.1.2.1, t49.1.2.2.2.2.2.2.1, t49.1.2.2.2.2.2.2.2.1, t49.1.2.2.2.2.2.2.2.2.1, t49.1.2.2.2.2.2.2.2.2.2.1, t49.1.2.2.2.2.2.2.2.2.2.2, b2, b3, b4, b5, t49.1.2.2.1, t49.1.2.2.2.1, t49.1.2.2.2.2.1, t49.1.2.2.2.2.2.1)))) (fun r => some (.inr (.inr r)))))
 (some (.inr (.inl (b0, b1, b6, b7, b8, b9, b10, b0_1, b1_1, b6_1, b7_1, b8_1, b9_1, b10_1, b2, b3, b4, b5, b2_1, b3_1, b4_1, b5_1))))
def impl_SetAll (p0 : Bridge) (i1 : List Bind) : Option (Bridge × Int × Int) :=
 (impl_copyBridge p0).bind fun t14 =>
 cond ((i1.length : Int) == 0)
 (some (t14, 0, 0))
 ((impl_BridgeOk p0).bind fun t20 =>
 cond (!t20)
 (some (t14, 3, 1))
 ((loop (fun z => impl_SetAll_l0 p0 i1 z.1 z.2.1 z.2.2.1 z.2.2.2.1 z.2.2.2.2.1 z.2.2.2.2.2.1 z.2.2.2.2.2.2.1 z.2.2.2.2.2.2.2.1 z.2.2.2.2.2.2.2.2.1 z.2.2.2.2.2.2.2.2.2.1 z.2.2.2.2.2.2.2.2.2.2.1 z.2.2.2.2.2.2.2.2.2.2.2.1 z.2.2.2.2.2.2.2.2.2.2.2.2.1 z.2.2.2.2.2.2.2.2.2.2.2.2.2.1 z.2.2.2.2.2.2.2.2.2.2.2.2.2.2.1 z.2.2.2.2.2.2.2.2.2.2.2.2.2.2.2.1 z.2.2.2.2.2.2.2.2.2.2.2.2.2.2.2.2.1 z.2.2.2.2.2.2.2.2.2.2.2.2.2.2.2.2.2.1 z.2.2.2.2.2.2.2.2.2.2.2.2.2.2.2.2.2.2.1 z.2.2.2.2.2.2.2.2.2.2.2.2.2.2.2.2.2.2.2.1 z.2.2.2.2.2.2.2.2.2.2.2.2.2.2.2.2.2.2.2.2.1 z.2.2.2.2.2.2.2.2.2.2.2.2.2.2.2.2.2.2.2.2.2.1 z.2.2.2.2.2.2.2.2.2.2.2.2.2.2.2.2.2.2.2.2.2.2) (0, 0, [], 0, 0, 0, 0, 0, t14.1, t14.2.1, t14.2.2.2.2.2.2.1, t14.2.2.2.2.2.2.2.1, t14.2.2.2.2.2.2.2.2.1, t14.2.2.2.2.2.2.2.2.2.1, t14.2.2.2.2.2.2.2.2.2.2, [], [], [], [], t14.2.2.1, t14.2.2.2.1, t14.2.2.2.2.1, t14.2.2.2.2.2.1)).bind (Sum.elim (fun d_1 =>
 (impl_VtabOk d_1.2.2.2.2.2.2.2.2.2.2.2.2.2.2.2.2.2.2.2.2 (d_1.2.2.2.2.2.2.2.2.2.2.2.2.2.2.2.2.2.2.1.length : Int)).bind fun t63 =>
 cond (!t63)
 ((impl_copyBridge p0).bind fun t66 =>
 some (t66, 5, (i1.length : Int)))
 ((impl_Bridge_turn (d_1.2.2.2.2.2.2.2.1, d_1.2.2.2.2.2.2.2.2.1, d_1.2.2.2.2.2.2.2.2.2.2.2.2.2.2.2.2.2.2.1, d_1.2.2.2.2.2.2.2.2.2.2.2.2.2.2.2.2.2.2.2.1, d_1.2.2.2.2.2.2.2.2.2.2.2.2.2.2.2.2.2.2.2.2.1, d_1.2.2.2.2.2.2.2.2.2.2.2.2.2.2.2.2.2.2.2.2.2, d_1.2.2.2.2.2.2.2.2.2.1, d_1.2.2.2.2.2.2.2.2.2.2.1, d_1.2.2.2.2.2.2.2.2.2.2.2.1, d_1.2.2.2.2.2.2.2.2.2.2.2.2.1, d_1.2.2.2.2.2.2.2.2.2.2.2.2.2.1)).bind fun t69 =>
 some (t69, 0, 0))) (fun r_1 => some ((r_1.2.2.1, r_1.2.2.2.1, r_1.2.2.2.2.2.2.2.2.2.1, r_1.2.2.2.2.2.2.2.2.2.2.1, r_1.2.2.2.2.2.2.2.2.2.2.2.1, r_1.2.2.2.2.2.2.2.2.2.2.2.2, r_1.2.2.2.2.1, r_1.2.2.2.2.2.1, r_1.2.2.2.2.2.2.1, r_1.2.2.2.2.2.2.2.1, r_1.2.2.2.2.2.2.2.2.1), r_1.1, r_1.2.1)))))
def F_impl_SetAll : Fn := ⟨[.val true cBridge false, .val false (.one (.sl cBind)) false], [.val true cBridge true, .val false cNI true, .val false cNI true], fun a => impl_SetAll a.1 a.2⟩
def a_impl_SetAll : List (Nat × LoopAnn) := [(0, ⟨⟨[(25, false, [dI])], [(2048, .box [dI, dS, .own 1000000000, .own 1000000001, .own 1000000002, .own 1000000003, dI, dI, dI, dI, dI]), (265216, .box [dI, dS, .own 1000000004, .own 1000000005, .own 1000000006, .own 1000000007, dI, dI, dI, dI, dI]), (1000000000, .root cPt true), (1000000001, .root cFent true), (1000000002, .root cVrow true), (1000000003, .root cNI true), (1000000004, .root cPt true), (1000000005, .root cFent true), (1000000006, .root cVrow true), (1000000007, .root cNI true)]⟩,
 ⟨[], [(2048, .box [dI, dS, .own 1000000300, .own 1000000301, .own 1000000302, .own 1000000303, dI, dI, dI, dI, dI]), (265216, .box [dI, dS, .own 1000000304, .own 1000000305, .own 1000000306, .own 1000000307, dI, dI, dI, dI, dI]), (1000000300, .root cPt true), (1000000301, .root cFent true), (1000000302, .root cVrow true), (1000000303, .root cNI true), (1000000304, .root cPt true), (1000000305, .root cFent true), (1000000306, .root cVrow true), (1000000307, .root cNI true)]⟩, some ⟨[(5, false, [dI]), (6, false, [dI])], [(2048, .box [dI, dS, .own 1000000600, .own 1000000601, .own 1000000602, .own 1000000603, dI, dI, dI, dI, dI]), (1000000600, .root cPt true), (1000000601, .root cFent true), (1000000602, .root cVrow true), (1000000603, .root cNI true)]⟩⟩),
 (2, ⟨⟨[(34, false, [dI])], [(2048, .box [dI, dS, .same 1000000000, .same 1000000001, .same 1000000002, .same 1000000003, dI, dI, dI, dI, dI])]⟩,
 ⟨[], [(2048, .box [dI, dS, .same 1000000000, .same 1000000001, .same 1000000002, .same 1000000003, dI, dI, dI, dI, dI])]⟩, some ⟨[(5, false, [dI]), (6, false, [dI])], [(2048, .box [dI, dS, .own 1000002600, .own 1000002601, .own 1000002602, .own 1000002603, dI, dI, dI, dI, dI]), (1000002600, .root cPt true), (1000002601, .root cFent true), (1000002602, .root cVrow true), (1000002603, .root cNI true)]⟩⟩)]
theorem m_impl_SetAll : Meets Tryz.prog 24 F_impl_SetAll := mkM g_90 24 Tryz.f24 a_impl_SetAll F_impl_SetAll Tryz.func24 (by kernel_rfl) (by kernel_rfl) (by kernel_rfl)
def fns_24 : List (FuncId × Fn) := (24, F_impl_SetAll) :: fns_90
theorem g_24 : Good Tryz.prog ⟨tis, fns_24, [], false⟩ := g_90.cons m_impl_SetAll
def impl_bulk_l0 (p0 : Bridge) (t24 : List Bind) (t26 : Int) (t5 : List Bind) : Option ((Int × List Bind) ⊕ (List Bind)) :=
 cond (decide (t26 < (t24.length : Int)))
 ((at? t24 t26).bind fun x28 =>
 (impl_MibNext p0 x28.1).bind fun t34 =>
 (app t5 [t34]).bind fun zs36 =>
 some (.inl (w64 (t26 + 1), zs36)))
 (some (.inr t5))
def impl_bulk_l2 (t41 : List Bind) (t43 : Int) (t9 : List (List Int)) : Option ((Int × List (List Int)) ⊕ (List (List Int))) :=
 cond (decide (t43 < (t41.length : Int)))
 ((at? t41 t43).bind fun x45 =>
 (app t9 [x45.1]).bind fun zs51 =>
 some (.inl (w64 (t43 + 1), zs51)))
 (some (.inr t9))
def impl_bulk_l6 (p0 : Bridge) (l : List (List Int)) (t71 : Int) (t5_3 : List Bind) (l_1 : List (List Int)) : Option ((Int × List Bind × List (List Int)) ⊕ (List Bind × List (List Int))) :=
 cond (decide (t71 < (l.length : Int)))
 (cond (decide ((t5_3.length : Int) ≥ 10))
 (some (.inr (t5_3, l_1)))
 ((ix l_1.length t71).bind fun j80 =>
 (l_1[j80]?).bind fun x81 =>
 (impl_MibNext p0 x81).bind fun t82 =>
 (ix l_1.length t71).bind fun j87 =>
 (l_1[j87]?).bind fun x =>
 (app t5_3 [t82]).bind fun zs91 =>
 some (.inl (w64 (t71 + 1), zs91, l_1.set j87 t82.1))))
 (some (.inr (t5_3, l_1)))
def impl_bulk_l4 (p0 : Bridge) (i1 : Pdu) (t12 : Int) (t5_2 : List Bind) (l : List (List Int)) : Option ((Int × List Bind × List (List Int)) ⊕ (List Bind × List (List Int))) :=
 (cond (decide (t12 < i1.2.2.2.1)) (some (decide ((l.length : Int) > 0))) (some false)).bind fun t61 =>
 (cond t61 (some (decide ((t5_2.length : Int) < 10))) (some false)).bind fun t66 =>
 cond t66
 ((loop (fun z => impl_bulk_l6 p0 l z.1 z.2.1 z.2.2) (0, t5_2, l)).bind fun d_2 =>
 some (.inl (w64 (t12 + 1), d_2.1, d_2.2)))
 (some (.inr (t5_2, l)))
def impl_bulk (p0 : Bridge) (i1 : Pdu) : Option (List Bind) :=
 let t6 := min2 i1.2.2.1 (i1.2.2.2.2.length : Int)
 (cut i1.2.2.2.2 0 t6).bind fun t24 =>
 (loop (fun z => impl_bulk_l0 p0 t24 z.1 z.2) (0, [])).bind fun d =>
 (cut i1.2.2.2.2 t6 (i1.2.2.2.2.length : Int)).bind fun t41 =>
 (loop (fun z => impl_bulk_l2 t41 z.1 z.2) (0, [])).bind fun d_1 =>
 (loop (fun z => impl_bulk_l4 p0 i1 z.1 z.2.1 z.2.2) (0, d, d_1)).bind fun d_3 =>
 some d_3.1
def F_impl_bulk : Fn := ⟨[.val true cBridge false, .val true cPdu false], [.val false (.one (.sl cBind)) false], fun a => impl_bulk a.1 a.2⟩
def a_impl_bulk : List (Nat × LoopAnn) := [(0, ⟨⟨[(5, false, [.own 1000000000]), (26, false, [dI])], [(1000000000, .root cBind false)]⟩,
 ⟨[(5, false, [.own 1000000300])], [(1000000300, .root cBind false)]⟩, none⟩),
 (2, ⟨⟨[(9, false, [.own 1000002000]), (43, false, [dI])], [(1000002000, .root cNN false)]⟩,
 ⟨[(9, false, [.own 1000002300])], [(1000002300, .root cNN false)]⟩, none⟩),
 (4, ⟨⟨(5, false, [.own 1000004000]) :: (12, false, [dI]) :: us 58 3 (us 63 3 []), [(1000004000, .root cBind false), (1000002300, .keep cNN false)]⟩,
 ⟨[(5, false, [.own 1000004300])], [(1000004300, .root cBind false), (1000002300, .keep cNN false)]⟩, none⟩),
 (6, ⟨⟨[(5, false, [.own 1000006000]), (71, false, [dI])], [(1000006000, .root cBind false), (1000002300, .keep cNN false)]⟩,
 ⟨[(5, false, [.own 1000006300])], [(1000006300, .root cBind false), (1000002300, .keep cNN false)]⟩, none⟩)]
theorem m_impl_bulk : Meets Tryz.prog 83 F_impl_bulk := mkM g_24 83 Tryz.f83 a_impl_bulk F_impl_bulk Tryz.func83 (by kernel_rfl) (by kernel_rfl) (by kernel_rfl)
def fns_83 : List (FuncId × Fn) := (83, F_impl_bulk) :: fns_24
theorem g_83 : Good Tryz.prog ⟨tis, fns_83, [], false⟩ := g_24.cons m_impl_bulk
def impl_ReplyOf_l1 (p0 : Bridge) (i1 : Pdu) (t54 : Int) (b0 : Int) (b1 : Int) (b2 : Int) (b3 : Int) (b4 : List Bind) : Option ((Int × Int × Int × Int × Int × List Bind) ⊕ (Int × Int × Int × Int × List Bind)) :=
 cond (decide (t54 < (i1.2.2.2.2.length : Int)))
 ((at? i1.2.2.2.2 t54).bind fun x56 =>
 (impl_copyInts x56.1).bind fun t62 =>
 (impl_MibGet p0 x56.1).bind fun t66 =>
 (app b4 [(t62, t66.1, t66.2.1, t66.2.2.1, t66.2.2.2)]).bind fun zs69 =>
 some (.inl (w64 (t54 + 1), b0, b1, b2, b3, zs69)))
 (some (.inr (b0, b1, b2, b3, b4)))
def impl_ReplyOf_l5 (i1 : Pdu) (b0_2 : Int) (b1_2 : List UInt8) (b6 : Int) (b7 : Int) (b8 : Int) (b9 : Int) (b10 : Int) (b0_3 : Int) (b1_3 : Int) (b2_2 : Int) (b3_2 : Int) (b0_4 : Int) (b1_4 : List UInt8) (b6_1 : Int) (b7_1 : Int) (b8_1 : Int) (b9_1 : Int) (b10_1 : Int) (b0_5 : Int) (b1_5 : Int) (b2_3 : Int) (b3_3 : Int) (b4_2 : List Bind) (b2_4 : List Pt) (b3_4 : List Fent) (b4_3 : List Vrow) (b5 : List Int) (b4_4 : List Bind) (b2_5 : List Pt) (b3_5 : List Fent) (b4_5 : List Vrow) (b5_1 : List Int) : Option ((Int × List UInt8 × Int × Int × Int × Int × Int × Int × Int × Int × Int × Int × List UInt8 × Int × Int × Int × Int × Int × Int × Int × Int × Int × List Bind × List Pt × List Fent × List Vrow × List Int × List Bind × List Pt × List Fent × List Vrow × List Int) ⊕ ((Int × List UInt8 × Int × Int × Int × Int × Int × Int × Int × Int × Int × Int × List UInt8 × Int × Int × Int × Int × Int × Int × Int × Int × Int × List Bind × List Pt × List Fent × List Vrow × List Int × List Bind × List Pt × List Fent × List Vrow × List Int) ⊕ (Bool × Int × List UInt8 × Int × Int × Int × Int × Int × Int × Int × Int × Int × List Bind × List Pt × List Fent × List Vrow × List Int))) :=
 (cond (i1.1 == 165) (some (decide ((b4_2.length : Int) > 0))) (some false)).bind fun t109 =>
 cond t109
 ((cut b4_2 0 (w64 ((b4_2.length : Int) - 1))).bind fun t116 =>
 (impl_Fits (b0_5, b1_5, b2_3, b3_3, t116)).bind fun t119 =>
 cond t119
 (some (.inr (.inr (true, b0_4, b1_4, b6_1, b7_1, b8_1, b9_1, b10_1, b0_5, b1_5, b2_3, b3_3, t116, b2_5, b3_5, b4_5, b5_1))))
 (some (.inl (b0_2, b1_2, b6, b7, b8, b9, b10, b0_3, b1_3, b2_2, b3_2, b0_4, b1_4, b6_1, b7_1, b8_1, b9_1, b10_1, b0_5, b1_5, b2_3, b3_3, t116, b2_4, b3_4, b4_3, b5, b4_4, b2_5, b3_5, b4_5, b5_1))))
 (some (.inr (.inl (b0_2, b1_2, b6, b7, b8, b9, b10, b0_3, b1_3, b2_2, b3_2, b0_4, b1_4, b6_1, b7_1, b8_1, b9_1, b10_1, b0_5, b1_5, b2_3, b3_3, b4_2, b2_4, b3_4, b4_3, b5, b4_4, b2_5, b3_5, b4_5, b5_1))))
def impl_ReplyOf_l3 (p0 : Bridge) (i1 : Pdu) (t77 : Int) (b0_10 : Int) (b1_10 : Int) (b2_10 : Int) (b3_10 : Int) (b4_10 : List Bind) : Option ((Int × Int × Int × Int × Int × List Bind) ⊕ (Int × Int × Int × Int × List Bind)) :=
 cond (decide (t77 < (i1.2.2.2.2.length : Int)))
 ((at? i1.2.2.2.2 t77).bind fun x79 =>
 (impl_MibNext p0 x79.1).bind fun t86 =>
 (app b4_10 [t86]).bind fun zs88 =>
 some (.inl (w64 (t77 + 1), b0_10, b1_10, b2_10, b3_10, zs88)))
 (some (.inr (b0_10, b1_10, b2_10, b3_10, b4_10)))
def impl_ReplyOf_l5_1 (i1 : Pdu) (b0_12 : Int) (b1_12 : List UInt8) (b6_4 : Int) (b7_4 : Int) (b8_4 : Int) (b9_4 : Int) (b10_4 : Int) (b0_13 : Int) (b1_13 : Int) (b2_12 : Int) (b3_12 : Int) (b0_14 : Int) (b1_14 : List UInt8) (b6_5 : Int) (b7_5 : Int) (b8_5 : Int) (b9_5 : Int) (b10_5 : Int) (b0_15 : Int) (b1_15 : Int) (b2_13 : Int) (b3_13 : Int) (b4_12 : List Bind) (b2_14 : List Pt) (b3_14 : List Fent) (b4_13 : List Vrow) (b5_4 : List Int) (b4_14 : List Bind) (b2_15 : List Pt) (b3_15 : List Fent) (b4_15 : List Vrow) (b5_5 : List Int) : Option ((Int × List UInt8 × Int × Int × Int × Int × Int × Int × Int × Int × Int × Int × List UInt8 × Int × Int × Int × Int × Int × Int × Int × Int × Int × List Bind × List Pt × List Fent × List Vrow × List Int × List Bind × List Pt × List Fent × List Vrow × List Int) ⊕ ((Int × List UInt8 × Int × Int × Int × Int × Int × Int × Int × Int × Int × Int × List UInt8 × Int × Int × Int × Int × Int × Int × Int × Int × Int × List Bind × List Pt × List Fent × List Vrow × List Int × List Bind × List Pt × List Fent × List Vrow × List Int) ⊕ (Bool × Int × List UInt8 × Int × Int × Int × Int × Int × Int × Int × Int × Int × List Bind × List Pt × List Fent × List Vrow × List Int))) :=
 (cond (i1.1 == 165) (some (decide ((b4_12.length : Int) > 0))) (some false)).bind fun t109_1 =>
 cond t109_1
 ((cut b4_12 0 (w64 ((b4_12.length : Int) - 1))).bind fun t116_1 =>
 (impl_Fits (b0_15, b1_15, b2_13, b3_13, t116_1)).bind fun t119_1 =>
 cond t119_1
 (some (.inr (.inr (true, b0_14, b1_14, b6_5, b7_5, b8_5, b9_5, b10_5, b0_15, b1_15, b2_13, b3_13, t116_1, b2_15, b3_15, b4_15, b5_5))))
 (some (.inl (b0_12, b1_12, b6_4, b7_4, b8_4, b9_4, b10_4, b0_13, b1_13, b2_12, b3_12, b0_14, b1_14, b6_5, b7_5, b8_5, b9_5, b10_5, b0_15, b1_15, b2_13, b3_13, t116_1, b2_14, b3_14, b4_13, b5_4, b4_14, b2_15, b3_15, b4_15, b5_5))))
 (some (.inr (.inl (b0_12, b1_12, b6_4, b7_4, b8_4, b9_4, b10_4, b0_13, b1_13, b2_12, b3_12, b0_14, b1_14, b6_5, b7_5, b8_5, b9_5, b10_5, b0_15, b1_15, b2_13, b3_13, b4_12, b2_14, b3_14, b4_13, b5_4, b4_14, b2_15, b3_15, b4_15, b5_5))))
def impl_ReplyOf_l5_2 (i1 : Pdu) (b0_20 : Int) (b1_20 : List UInt8) (b6_8 : Int) (b7_8 : Int) (b8_8 : Int) (b9_8 : Int) (b10_8 : Int) (b0_21 : Int) (b1_21 : Int) (b2_20 : Int) (b3_20 : Int) (b0_22 : Int) (b1_22 : List UInt8) (b6_9 : Int) (b7_9 : Int) (b8_9 : Int) (b9_9 : Int) (b10_9 : Int) (b0_23 : Int) (b1_23 : Int) (b2_21 : Int) (b3_21 : Int) (b4_20 : List Bind) (b2_22 : List Pt) (b3_22 : List Fent) (b4_21 : List Vrow) (b5_8 : List Int) (b4_22 : List Bind) (b2_23 : List Pt) (b3_23 : List Fent) (b4_23 : List Vrow) (b5_9 : List Int) : Option ((Int × List UInt8 × Int × Int × Int × Int × Int × Int × Int × Int × Int × Int × List UInt8 × Int × Int × Int × Int × Int × Int × Int × Int × Int × List Bind × List Pt × List Fent × List Vrow × List Int × List Bind × List Pt × List Fent × List Vrow × List Int) ⊕ ((Int × List UInt8 × Int × Int × Int × Int × Int × Int × Int × Int × Int × Int × List UInt8 × Int × Int × Int × Int × Int × Int × Int × Int × Int × List Bind × List Pt × List Fent × List Vrow × List Int × List Bind × List Pt × List Fent × List Vrow × List Int) ⊕ (Bool × Int × List UInt8 × Int × Int × Int × Int × Int × Int × Int × Int × Int × List Bind × List Pt × List Fent × List Vrow × List Int))) :=
 (cond (i1.1 == 165) (some (decide ((b4_20.length : Int) > 0))) (some false)).bind fun t109_2 =>
 cond t109_2
 ((cut b4_20 0 (w64 ((b4_20.length : Int) - 1))).bind fun t116_2 =>
 (impl_Fits (b0_23, b1_23, b2_21, b3_21, t116_2)).bind fun t119_2 =>
 cond t119_2
 (some (.inr (.inr (true, b0_22, b1_22, b6_9, b7_9, b8_9, b9_9, b10_9, b0_23, b1_23, b2_21, b3_21, t116_2, b2_23, b3_23, b4_23, b5_9))))
 (some (.inl (b0_20, b1_20, b6_8, b7_8, b8_8, b9_8, b10_8, b0_21, b1_21, b2_20, b3_20, b0_22, b1_22, b6_9, b7_9, b8_9, b9_9, b10_9, b0_23, b1_23, b2_21, b3_21, t116_2, b2_22, b3_22, b4_21, b5_8, b4_22, b2_23, b3_23, b4_23, b5_9))))
 (some (.inr (.inl (b0_20, b1_20, b6_8, b7_8, b8_8, b9_8, b10_8, b0_21, b1_21, b2_20, b3_20, b0_22, b1_22, b6_9, b7_9, b8_9, b9_9, b10_9, b0_23, b1_23, b2_21, b3_21, b4_20, b2_22, b3_22, b4_21, b5_8, b4_22, b2_23, b3_23, b4_23, b5_9))))
def impl_ReplyOf_l5_3 (i1 : Pdu) (b0_28 : Int) (b1_28 : List UInt8) (b6_12 : Int) (b7_12 : Int) (b8_12 : Int) (b9_12 : Int) (b10_12 : Int) (b0_29 : Int) (b1_29 : Int) (b2_28 : Int) (b3_28 : Int) (b0_30 : Int) (b1_30 : List UInt8) (b6_13 : Int) (b7_13 : Int) (b8_13 : Int) (b9_13 : Int) (b10_13 : Int) (b0_31 : Int) (b1_31 : Int) (b2_29 : Int) (b3_29 : Int) (b4_28 : List Bind) (b2_30 : List Pt) (b3_30 : List Fent) (b4_29 : List Vrow) (b5_12 : List Int) (b4_30 : List Bind) (b2_31 : List Pt) (b3_31 : List Fent) (b4_31 : List Vrow) (b5_13 : List Int) : Option ((Int × List UInt8 × Int × Int × Int × Int × Int × Int × Int × Int × Int × Int × List UInt8 × Int × Int × Int × Int × Int × Int × Int × Int × Int × List Bind × List Pt × List Fent × List Vrow × List Int × List Bind × List Pt × List Fent × List Vrow × List Int) ⊕ ((Int × List UInt8 × Int × Int × Int × Int × Int × Int × Int × Int × Int × Int × List UInt8 × Int × Int × Int × Int × Int × Int × Int × Int × Int × List Bind × List Pt × List Fent × List Vrow × List Int × List Bind × List Pt × List Fent × List Vrow × List Int) ⊕ (Bool × Int × List UInt8 × Int × Int × Int × Int × Int × Int × Int × Int × Int × List Bind × List Pt × List Fent × List Vrow × List Int))) :=
 (cond (i1.1 == 165) (some (decide ((b4_28.length : Int) > 0))) (some false)).bind fun t109_3 =>
 cond t109_3
 ((cut b4_28 0 (w64 ((b4_28.length : Int) - 1))).bind fun t116_3 =>
 (impl_Fits (b0_31, b1_31, b2_29, b3_29, t116_3)).bind fun t119_3 =>
 cond t119_3
 (some (.inr (.inr (true, b0_30, b1_30, b6_13, b7_13, b8_13, b9_13, b10_13, b0_31, b1_31, b2_29, b3_29, t116_3, b2_31, b3_31, b4_31, b5_13))))
 (some (.inl (b0_28, b1_28, b6_12, b7_12, b8_12, b9_12, b10_12, b0_29, b1_29, b2_28, b3_28, b0_30, b1_30, b6_13, b7_13, b8_13, b9_13, b10_13, b0_31, b1_31, b2_29, b3_29, t116_3, b2_30, b3_30, b4_29, b5_12, b4_30, b2_31, b3_31, b4_31, b5_13))))
 (some (.inr (.inl (b0_28, b1_28, b6_12, b7_12, b8_12, b9_12, b10_12, b0_29, b1_29, b2_28, b3_28, b0_30, b1_30, b6_13, b7_13, b8_13, b9_13, b10_13, b0_31, b1_31, b2_29, b3_29, b4_28, b2_30, b3_30, b4_29, b5_12, b4_30, b2_31, b3_31, b4_31, b5_13))))
def impl_ReplyOf (p0 : Bridge) (i1 : Pdu) : Option (Bridge × Pdu × Bool) :=
 (impl_copyBridge p0).bind fun t14 =>
 (impl_BridgeOk p0).bind fun t16 =>
 (cond (!t16)
 (some true)
 ((impl_PduOk i1).bind fun t20 =>
 some (!t20))).bind fun t22 =>
 (cond t22 (some true) (some (i1.1 == 162))).bind fun t27 =>
 cond t27
 (some (t14, (0, 0, 0, 0, []), false))
 (cond (i1.1 == 160)
 ((loop (fun z => impl_ReplyOf_l1 p0 i1 z.1 z.2.1 z.2.2.1 z.2.2.2.1 z.2.2.2.2.1 z.2.2.2.2.2) (0, 162, i1.2.1, 0, 0, [])).bind fun d =>
 (impl_Fits d).bind fun t98 =>
 cond t98
 (some (t14, d, true))
 ((loop (fun z => impl_ReplyOf_l5 i1 z.1 z.2.1 z.2.2.1 z.2.2.2.1 z.2.2.2.2.1 z.2.2.2.2.2.1 z.2.2.2.2.2.2.1 z.2.2.2.2.2.2.2.1 z.2.2.2.2.2.2.2.2.1 z.2.2.2.2.2.2.2.2.2.1 z.2.2.2.2.2.2.2.2.2.2.1 z.2.2.2.2.2.2.2.2.2.2.2.1 z.2.2.2.2.2.2.2.2.2.2.2.2.1 z.2.2.2.2.2.2.2.2.2.2.2.2.2.1 z.2.2.2.2.2.2.2.2.2.2.2.2.2.2.1 z.2.2.2.2.2.2.2.2.2.2.2.2.2.2.2.1 z.2.2.2.2.2.2.2.2.2.2.2.2.2.2.2.2.1 z.2.2.2.2.2.2.2.2.2.2.2.2.2.2.2.2.2.1 z.2.2.2.2.2.2.2.2.2.2.2.2.2.2.2.2.2.2.1 z.2.2.2.2.2.2.2.2.2.2.2.2.2.2.2.2.2.2.2.1 z.2.2.2.2.2.2.2.2.2.2.2.2.2.2.2.2.2.2.2.2.1 z.2.2.2.2.2.2.2.2.2.2.2.2.2.2.2.2.2.2.2.2.2.1 z.2.2.2.2.2.2.2.2.2.2.2.2.2.2.2.2.2.2.2.2.2.2.1 z.2.2.2.2.2.2.2.2.2.2.2.2.2.2.2.2.2.2.2.2.2.2.2.1 z.2.2.2.2.2.2.2.2.2.2.2.2.2.2.2.2.2.2.2.2.2.2.2.2.1 z.2.2.2.2.2.2.2.2.2.2.2.2.2.2.2.2.2.2.2.2.2.2.2.2.2.1 z.2.2.2.2.2.2.2.2.2.2.2.2.2.2.2.2.2.2.2.2.2.2.2.2.2.2.1 z.2.2.2.2.2.2.2.2.2.2.2.2.2.2.2.2.2.2.2.2.2.2.2.2.2.2.2.1 z.2.2.2.2.2.2.2.2.2.2.2.2.2.2.2.2.2.2.2.2.2.2.2.2.2.2.2.2.1 z.2.2.2.2.2.2.2.2.2.2.2.2.2.2.2.2.2.2.2.2.2.2.2.2.2.2.2.2.2.1 z.2.2.2.2.2.2.2.2.2.2.2.2.2.2.2.2.2.2.2.2.2.2.2.2.2.2.2.2.2.2.1 z.2.2.2.2.2.2.2.2.2.2.2.2.2.2.2.2.2.2.2.2.2.2.2.2.2.2.2.2.2.2.2) (0, [], 0, 0, 0, 0, 0, 0, 0, 0, 0, t14.1, t14.2.1, t14.2.2.2.2.2.2.1, t14.2.2.2.2.2.2.2.1, t14.2.2.2.2.2.2.2.2.1, t14.2.2.2.2.2.2.2.2.2.1, t14.2.2.2.2.2.2.2.2.2.2, d.1, d.2.1, d.2.2.1, d.2.2.2.1, d.2.2.2.2, [], [], [], [], [], t14.2.2.1, t14.2.2.2.1, t14.2.2.2.2.1, t14.2.2.2.2.2.1)).bind (Sum.elim (fun d_1 =>
 (impl_copyBridge p0).bind fun t123 =>
 some (t123, (162, i1.2.1, 7, 0, []), true)) (fun r => some ((r.2.1, r.2.2.1, r.2.2.2.2.2.2.2.2.2.2.2.2.2.1, r.2.2.2.2.2.2.2.2.2.2.2.2.2.2.1, r.2.2.2.2.2.2.2.2.2.2.2.2.2.2.2.1, r.2.2.2.2.2.2.2.2.2.2.2.2.2.2.2.2, r.2.2.2.1, r.2.2.2.2.1, r.2.2.2.2.2.1, r.2.2.2.2.2.2.1, r.2.2.2.2.2.2.2.1), (r.2.2.2.2.2.2.2.2.1, r.2.2.2.2.2.2.2.2.2.1, r.2.2.2.2.2.2.2.2.2.2.1, r.2.2.2.2.2.2.2.2.2.2.2.1, r.2.2.2.2.2.2.2.2.2.2.2.2.1), r.1)))))
 (cond (i1.1 == 161)
 ((loop (fun z => impl_ReplyOf_l3 p0 i1 z.1 z.2.1 z.2.2.1 z.2.2.2.1 z.2.2.2.2.1 z.2.2.2.2.2) (0, 162, i1.2.1, 0, 0, [])).bind fun d_2 =>
 (impl_Fits d_2).bind fun t98_1 =>
 cond t98_1
 (some (t14, d_2, true))
 ((loop (fun z => impl_ReplyOf_l5_1 i1 z.1 z.2.1 z.2.2.1 z.2.2.2.1 z.2.2.2.2.1 z.2.2.2.2.2.1 z.2.2.2.2.2.2.1 z.2.2.2.2.2.2.2.1 z.2.2.2.2.2.2.2.2.1 z.2.2.2.2.2.2.2.2.2.1 z.2.2.2.2.2.2.2.2.2.2.1 z.2.2.2.2.2.2.2.2.2.2.2.1 z.2.2.2.2.2.2.2.2.2.2.2.2.1 z.2.2.2.2.2.2.2.2.2.2.2.2.2.1 z.2.2.2.2.2.2.2.2.2.2.2.2.2.2.1 z.2.2.2.2.2.2.2.2.2.2.2.2.2.2.2.1 z.2.2.2.2.2.2.2.2.2.2.2.2.2.2.2.2.1 z.2.2.2.2.2.2.2.2.2.2.2.2.2.2.2.2.2.1 z.2.2.2.2.2.2.2.2.2.2.2.2.2.2.2.2.2.2.1 z.2.2.2.2.2.2.2.2.2.2.2.2.2.2.2.2.2.2.2.1 z.2.2.2.2.2.2.2.2.2.2.2.2.2.2.2.2.2.2.2.2.1 z.2.2.2.2.2.2.2.2.2.2.2.2.2.2.2.2.2.2.2.2.2.1 z.2.2.2.2.2.2.2.2.2.2.2.2.2.2.2.2.2.2.2.2.2.2.1 z.2.2.2.2.2.2.2.2.2.2.2.2.2.2.2.2.2.2.2.2.2.2.2.1 z.2.2.2.2.2.2.2.2.2.2.2.2.2.2.2.2.2.2.2.2.2.2.2.2.1 z.2.2.2.2.2.2.2.2.2.2.2.2.2.2.2.2.2.2.2.2.2.2.2.2.2.1 z.2.2.2.2.2.2.2.2.2.2.2.2.2.2.2.2.2.2.2.2.2.2.2.2.2.2.1 z.2.2.2.2.2.2.2.2.2.2.2.2.2.2.2.2.2.2.2.2.2.2.2.2.2.2.2.1 z.2.2.2.2.2.2.2.2.2.2.2.2.2.2.2.2.2.2.2.2.2.2.2.2.2.2.2.2.1 z.2.2.2.2.2.2.2.2.2.2.2.2.2.2.2.2.2.2.2.2.2.2.2.2.2.2.2.2.2.1 z.2.2.2.2.2.2.2.2.2.2.2.2.2.2.2.2.2.2.2.2.2.2.2.2.2.2.2.2.2.2.1 z.2.2.2.2.2.2.2.2.2.2.2.2.2.2.2.2.2.2.2.2.2.2.2.2.2.2.2.2.2.2.2) (0, [], 0, 0, 0, 0, 0, 0, 0, 0, 0, t14.1, t14.2.1, t14.2.2.2.2.2.2.1, t14.2.2.2.2.2.2.2.1, t14.2.2.2.2.2.2.2.2.1, t14.2.2.2.2.2.2.2.2.2.1, t14.2.2.2.2.2.2.2.2.2.2, d_2.1, d_2.2.1, d_2.2.2.1, d_2.2.2.2.1, d_2.2.2.2.2, [], [], [], [], [], t14.2.2.1, t14.2.2.2.1, t14.2.2.2.2.1, t14.2.2.2.2.2.1)).bind (Sum.elim (fun d_3 =>
 (impl_copyBridge p0).bind fun t123_1 =>
 some (t123_1, (162, i1.2.1, 7, 0, []), true)) (fun r_1 => some ((r_1.2.1, r_1.2.2.1, r_1.2.2.2.2.2.2.2.2.2.2.2.2.2.1, r_1.2.2.2.2.2.2.2.2.2.2.2.2.2.2.1, r_1.2.2.2.2.2.2.2.2.2.2.2.2.2.2.2.1, r_1.2.2.2.2.2.2.2.2.2.2.2.2.2.2.2.2, r_1.2.2.2.1, r_1.2.2.2.2.1, r_1.2.2.2.2.2.1, r_1.2.2.2.2.2.2.1, r_1.2.2.2.2.2.2.2.1), (r_1.2.2.2.2.2.2.2.2.1, r_1.2.2.2.2.2.2.2.2.2.1, r_1.2.2.2.2.2.2.2.2.2.2.1, r_1.2.2.2.2.2.2.2.2.2.2.2.1, r_1.2.2.2.2.2.2.2.2.2.2.2.2.1), r_1.1)))))
 (cond (i1.1 == 165)
 ((impl_bulk p0 i1).bind fun t95 =>
 (impl_Fits (162, i1.2.1, 0, 0, t95)).bind fun t98_2 =>
 cond t98_2
 (some (t14, (162, i1.2.1, 0, 0, t95), true))
 ((loop (fun z => impl_ReplyOf_l5_2 i1 z.1 z.2.1 z.2.2.1 z.2.2.2.1 z.2.2.2.2.1 z.2.2.2.2.2.1 z.2.2.2.2.2.2.1 z.2.2.2.2.2.2.2.1 z.2.2.2.2.2.2.2.2.1 z.2.2.2.2.2.2.2.2.2.1 z.2.2.2.2.2.2.2.2.2.2.1 z.2.2.2.2.2.2.2.2.2.2.2.1 z.2.2.2.2.2.2.2.2.2.2.2.2.1 z.2.2.2.2.2.2.2.2.2.2.2.2.2.1 z.2.2.2.2.2.2.2.2.2.2.2.2.2.2.1 z.2.2.2.2.2.2.2.2.2.2.2.2.2.2.2.1 z.2.2.2.2.2.2.2.2.2.2.2.2.2.2.2.2.1 z.2.2.2.2.2.2.2.2.2.2.2.2.2.2.2.2.2.1 z.2.2.2.2.2.2.2.2.2.2.2.2.2.2.2.2.2.2.1 z.2.2.2.2.2.2.2.2.2.2.2.2.2.2.2.2.2.2.2.1 z.2.2.2.2.2.2.2.2.2.2.2.2.2.2.2.2.2.2.2.2.1 z.2.2.2.2.2.2.2.2.2.2.2.2.2.2.2.2.2.2.2.2.2.1 z.2.2.2.2.2.2.2.2.2.2.2.2.2.2.2.2.2.2.2.2.2.2.1 z.2.2.2.2.2.2.2.2.2.2.2.2.2.2.2.2.2.2.2.2.2.2.2.1 z.2.2.2.2.2.2.2.2.2.2.2.2.2.2.2.2.2.2.2.2.2.2.2.2.1 z.2.2.2.2.2.2.2.2.2.2.2.2.2.2.2.2.2.2.2.2.2.2.2.2.2.1 z.2.2.2.2.2.2.2.2.2.2.2.2.2.2.2.2.2.2.2.2.2.2.2.2.2.2.1 z.2.2.2.2.2.2.2.2.2.2.2.2.2.2.2.2.2.2.2.2.2.2.2.2.2.2.2.1 z.2.2.2.2.2.2.2.2.2.2.2.2.2.2.2.2.2.2.2.2.2.2.2.2.2.2.2.2.1 z.2.2.2.2.2.2.2.2.2.2.2.2.2.2.2.2.2.2.2.2.2.2.2.2.2.2.2.2.2.1 z.2.2.2.2.2.2.2.2.2.2.2.2.2.2.2.2.2.2.2.2.2.2.2.2.2.2.2.2.2.2.1 z.2.2.2.2.2.2.2.2.2.2.2.2.2.2.2.2.2.2.2.2.2.2.2.2.2.2.2.2.2.2.2) (0, [], 0, 0, 0, 0, 0, 0, 0, 0, 0, t14.1, t14.2.1, t14.2.2.2.2.2.2.1, t14.2.2.2.2.2.2.2.1, t14.2.2.2.2.2.2.2.2.1, t14.2.2.2.2.2.2.2.2.2.1, t14.2.2.2.2.2.2.2.2.2.2, 162, i1.2.1, 0, 0, t95, [], [], [], [], [], t14.2.2.1, t14.2.2.2.1, t14.2.2.2.2.1, t14.2.2.2.2.2.1)).bind (Sum.elim (fun d_4 =>
 (impl_copyBridge p0).bind fun t123_2 =>
 some (t123_2, (162, i1.2.1, 7, 0, []), true)) (fun r_2 => some ((r_2.2.1, r_2.2.2.1, r_2.2.2.2.2.2.2.2.2.2.2.2.2.2.1, r_2.2.2.2.2.2.2.2.2.2.2.2.2.2.2.1, r_2.2.2.2.2.2.2.2.2.2.2.2.2.2.2.2.1, r_2.2.2.2.2.2.2.2.2.2.2.2.2.2.2.2.2, r_2.2.2.2.1, r_2.2.2.2.2.1, r_2.2.2.2.2.2.1, r_2.2.2.2.2.2.2.1, r_2.2.2.2.2.2.2.2.1), (r_2.2.2.2.2.2.2.2.2.1, r_2.2.2.2.2.2.2.2.2.2.1, r_2.2.2.2.2.2.2.2.2.2.2.1, r_2.2.2.2.2.2.2.2.2.2.2.2.1, r_2.2.2.2.2.2.2.2.2.2.2.2.2.1), r_2.1)))))
 ((impl_SetAll p0 i1.2.2.2.2).bind fun t39 =>
 (impl_copyBinds i1.2.2.2.2).bind fun t47 =>
 (impl_Fits (162, i1.2.1, t39.2.1, t39.2.2, t47)).bind fun t98_3 =>
 cond t98_3
 (some (t39.1, (162, i1.2.1, t39.2.1, t39.2.2, t47), true))
 ((loop (fun z => impl_ReplyOf_l5_3 i1 z.1 z.2.1 z.2.2.1 z.2.2.2.1 z.2.2.2.2.1 z.2.2.2.2.2.1 z.2.2.2.2.2.2.1 z.2.2.2.2.2.2.2.1 z.2.2.2.2.2.2.2.2.1 z.2.2.2.2.2.2.2.2.2.1 z.2.2.2.2.2.2.2.2.2.2.1 z.2.2.2.2.2.2.2.2.2.2.2.1 z.2.2.2.2.2.2.2.2.2.2.2.2.1 z.2.2.2.2.2.2.2.2.2.2.2.2.2.1 z.2.2.2.2.2.2.2.2.2.2.2.2.2.2.1 z.2.2.2.2.2.2.2.2.2.2.2.2.2.2.2.1 z.2.2.2.2.2.2.2.2.2.2.2.2.2.2.2.2.1 z.2.2.2.2.2.2.2.2.2.2.2.2.2.2.2.2.2.1 z.2.2.2.2.2.2.2.2.2.2.2.2.2.2.2.2.2.2.1 z.2.2.2.2.2.2.2.2.2.2.2.2.2.2.2.2.2.2.2.1 z.2.2.2.2.2.2.2.2.2.2.2.2.2.2.2.2.2.2.2.2.1 z.2.2.2.2.2.2.2.2.2.2.2.2.2.2.2.2.2.2.2.2.2.1 z.2.2.2.2.2.2.2.2.2.2.2.2.2.2.2.2.2.2.2.2.2.2.1 z.2.2.2.2.2.2.2.2.2.2.2.2.2.2.2.2.2.2.2.2.2.2.2.1 z.2.2.2.2.2.2.2.2.2.2.2.2.2.2.2.2.2.2.2.2.2.2.2.2.1 z.2.2.2.2.2.2.2.2.2.2.2.2.2.2.2.2.2.2.2.2.2.2.2.2.2.1 z.2.2.2.2.2.2.2.2.2.2.2.2.2.2.2.2.2.2.2.2.2.2.2.2.2.2.1 z.2.2.2.2.2.2.2.2.2.2.2.2.2.2.2.2.2.2.2.2.2.2.2.2.2.2.2.1 z.2.2.2.2.2.2.2.2.2.2.2.2.2.2.2.2.2.2.2.2.2.2.2.2.2.2.2.2.1 z.2.2.2.2.2.2.2.2.2.2.2.2.2.2.2.2.2.2.2.2.2.2.2.2.2.2.2.2.2.1 z.2.2.2.2.2.2.2.2.2.2.2.2.2.2.2.2.2.2.2.2.2.2.2.2.2.2.2.2.2.2.1 z.2.2.2.2.2.2.2.2.2.2.2.2.2.2.2.2.2.2.2.2.2.2.2.2.2.2.2.2.2.2.2) (0, [], 0, 0, 0, 0, 0, 0, 0, 0, 0, t39.1.1, t39.1.2.1, t39.1.2.2.2.2.2.2.1, t39.1.2.2.2.2.2.2.2.1, t39.1.2.2.2.2.2.2.2.2.1, t39.1.2.2.2.2.2.2.2.2.2.1, t39.1.2.2.2.2.2.2.2.2.2.2, 162, i1.2.1, t39.2.1, t39.2.2, t47, [], [], [], [], [], t39.1.2.2.1, t39.1.2.2.2.1, t39.1.2.2.2.2.1, t39.1.2.2.2.2.2.1)).bind (Sum.elim (fun d_5 =>
 (impl_copyBridge p0).bind fun t123_3 =>
 some (t123_3, (162, i1.2.1, 7, 0, []), true)) (fun r_3 => some ((r_3.2.1, r_3.2.2.1, r_3.2.2.2.2.2.2.2.2.2.2.2.2.2.1, r_3.2.2.2.2.2.2.2.2.2.2.2.2.2.2.1, r_3.2.2.2.2.2.2.2.2.2.2.2.2.2.2.2.1, r_3.2.2.2.2.2.2.2.2.2.2.2.2.2.2.2.2, r_3.2.2.2.1, r_3.2.2.2.2.1, r_3.2.2.2.2.2.1, r_3.2.2.2.2.2.2.1, r_3.2.2.2.2.2.2.2.1), (r_3.2.2.2.2.2.2.2.2.1, r_3.2.2.2.2.2.2.2.2.2.1, r_3.2.2.2.2.2.2.2.2.2.2.1, r_3.2.2.2.2.2.2.2.2.2.2.2.1, r_3.2.2.2.2.2.2.2.2.2.2.2.2.1), r_3.1))))))))
def F_impl_ReplyOf : Fn := ⟨[.val true cBridge false, .val true cPdu false], [.val true cBridge true, .val true cPdu false, .val false cNB true], fun a => impl_ReplyOf a.1 a.2⟩
def a_impl_ReplyOf : List (Nat × LoopAnn) := [(1, ⟨⟨[(54, false, [dI])], [(1052672, .box [dI, dI, dI, dI, .own 1000001000]), (1000001000, .root cBind false)]⟩,
 ⟨[], [(1052672, .box [dI, dI, dI, dI, .own 1000001300]), (1000001300, .root cBind false)]⟩, none⟩),
 (3, ⟨⟨[(77, false, [dI])], [(1052672, .box [dI, dI, dI, dI, .own 1000003000]), (1000003000, .root cBind false)]⟩,
 ⟨[], [(1052672, .box [dI, dI, dI, dI, .own 1000003300]), (1000003300, .root cBind false)]⟩, none⟩),
 (5, ⟨⟨us 105 4 [], [(3072, .box [dI, dS, .own 1000005000, .own 1000005001, .own 1000005002, .own 1000005003, dI, dI, dI, dI, dI]), (4096, .box [dI, dI, dI, dI, .own 1000005004]), (265216, .box [dI, dS, .own 1000005005, .own 1000005006, .own 1000005007, .own 1000005008, dI, dI, dI, dI, dI]), (1052672, .box [dI, dI, dI, dI, .dat (.sl cBind)]), (1000005000, .root cPt true), (1000005001, .root cFent true), (1000005002, .root cVrow true), (1000005003, .root cNI true), (1000005004, .root cBind true), (1000005005, .root cPt true), (1000005006, .root cFent true), (1000005007, .root cVrow true), (1000005008, .root cNI true)]⟩,
 ⟨[], [(3072, .box [dI, dS, .own 1000005300, .own 1000005301, .own 1000005302, .own 1000005303, dI, dI, dI, dI, dI]), (4096, .box [dI, dI, dI, dI, .own 1000005304]), (265216, .box [dI, dS, .own 1000005305, .own 1000005306, .own 1000005307, .own 1000005308, dI, dI, dI, dI, dI]), (1052672, .box [dI, dI, dI, dI, .dat (.sl cBind)]), (1000005300, .root cPt true), (1000005301, .root cFent true), (1000005302, .root cVrow true), (1000005303, .root cNI true), (1000005304, .root cBind true), (1000005305, .root cPt true), (1000005306, .root cFent true), (1000005307, .root cVrow true), (1000005308, .root cNI true)]⟩, some ⟨[(6, false, [dB])], [(3072, .box [dI, dS, .own 1000005600, .own 1000005601, .own 1000005602, .own 1000005603, dI, dI, dI, dI, dI]), (4096, .box [dI, dI, dI, dI, .dat (.sl cBind)]), (1000005600, .root cPt true), (1000005601, .root cFent true), (1000005602, .root cVrow true), (1000005603, .root cNI true)]⟩⟩)]
theorem m_impl_ReplyOf : Meets Tryz.prog 16 F_impl_ReplyOf := mkM g_83 16 Tryz.f16 a_impl_ReplyOf F_impl_ReplyOf Tryz.func16 (by kernel_rfl) (by kernel_rfl) (by kernel_rfl)
def fns_16 : List (FuncId × Fn) := (16, F_impl_ReplyOf) :: fns_83
theorem g_16 : Good Tryz.prog ⟨tis, fns_16, [], false⟩ := g_83.cons m_impl_ReplyOf
def impl_late (p0 : Pdu) : Option Pdu :=
 (impl_copyBinds p0.2.2.2.2).bind fun t8 =>
 (impl_Fits (162, p0.2.1, 6, 1, t8)).bind fun t11 =>
 cond (!t11) (some (162, p0.2.1, 7, 0, [])) (some (162, p0.2.1, 6, 1, t8))
def F_impl_late : Fn := ⟨[.val true cPdu false], [.val true cPdu true], fun a => impl_late a⟩
theorem m_impl_late : Meets Tryz.prog 320 F_impl_late := mkM g_16 320 Tryz.f320 [] F_impl_late Tryz.func320 (by kernel_rfl) (by kernel_rfl) (by kernel_rfl)
def fns_320 : List (FuncId × Fn) := (320, F_impl_late) :: fns_16
theorem g_320 : Good Tryz.prog ⟨tis, fns_320, [], false⟩ := g_16.cons m_impl_late
def impl_Agent_finish (p0 : Agent) (i1 : Int) : Option (Agent × List Done) :=
 (ix p0.2.2.2.2.2.2.2.2.2.2.2.2.1.length i1).bind fun j12 =>
 (p0.2.2.2.2.2.2.2.2.2.2.2.2.1[j12]?).bind fun x13 =>
 cond (x13.2.2.2.1 != 163)
 ((impl_ReplyOf (x13.2.2.2.2.2.2.2.2.1, x13.2.2.2.2.2.2.2.2.2.1, x13.2.2.2.2.2.2.2.2.2.2.1, x13.2.2.2.2.2.2.2.2.2.2.2.1, x13.2.2.2.2.2.2.2.2.2.2.2.2.1, x13.2.2.2.2.2.2.2.2.2.2.2.2.2.1, x13.2.2.2.2.2.2.2.2.2.2.2.2.2.2.1, x13.2.2.2.2.2.2.2.2.2.2.2.2.2.2.2.1, x13.2.2.2.2.2.2.2.2.2.2.2.2.2.2.2.2.1, x13.2.2.2.2.2.2.2.2.2.2.2.2.2.2.2.2.2.1, x13.2.2.2.2.2.2.2.2.2.2.2.2.2.2.2.2.2.2.1) (x13.2.2.2.1, x13.2.2.2.2.1, x13.2.2.2.2.2.1, x13.2.2.2.2.2.2.1, x13.2.2.2.2.2.2.2.1)).bind fun t41 =>
 (impl_Agent_drop p0 i1).bind fun t81 =>
 some (t81, [(x13.1, t41.2.1.1, t41.2.1.2.1, t41.2.1.2.2.1, t41.2.1.2.2.2.1, t41.2.1.2.2.2.2)]))
 (let t46 := p0.2.2.2.2.2.2.2.2.2.2.1 == x13.2.2.2.2.2.2.2.2.2.2.2.2.2.2.2.2.2.2.1
 cond t46
 ((impl_ReplyOf (p0.1, p0.2.1, p0.2.2.1, p0.2.2.2.1, p0.2.2.2.2.1, p0.2.2.2.2.2.1, p0.2.2.2.2.2.2.1, p0.2.2.2.2.2.2.2.1, p0.2.2.2.2.2.2.2.2.1, p0.2.2.2.2.2.2.2.2.2.1, p0.2.2.2.2.2.2.2.2.2.2.1) (x13.2.2.2.1, x13.2.2.2.2.1, x13.2.2.2.2.2.1, x13.2.2.2.2.2.2.1, x13.2.2.2.2.2.2.2.1)).bind fun t64 =>
 (impl_Agent_drop (t64.1.1, t64.1.2.1, t64.1.2.2.1, t64.1.2.2.2.1, t64.1.2.2.2.2.1, t64.1.2.2.2.2.2.1, t64.1.2.2.2.2.2.2.1, t64.1.2.2.2.2.2.2.2.1, t64.1.2.2.2.2.2.2.2.2.1, t64.1.2.2.2.2.2.2.2.2.2.1, t64.1.2.2.2.2.2.2.2.2.2.2, p0.2.2.2.2.2.2.2.2.2.2.2.1, p0.2.2.2.2.2.2.2.2.2.2.2.2.1, p0.2.2.2.2.2.2.2.2.2.2.2.2.2.1, p0.2.2.2.2.2.2.2.2.2.2.2.2.2.2) i1).bind fun t81_1 =>
 some (t81_1, [(x13.1, t64.2.1.1, t64.2.1.2.1, t64.2.1.2.2.1, t64.2.1.2.2.2.1, t64.2.1.2.2.2.2)]))
 (let t71 := decide (x13.2.2.2.2.2.2.2.2.2.2.2.2.2.2.2.2.2.2.2.2 ≥ 3)
 cond t71
 ((impl_late (x13.2.2.2.1, x13.2.2.2.2.1, x13.2.2.2.2.2.1, x13.2.2.2.2.2.2.1, x13.2.2.2.2.2.2.2.1)).bind fun t77 =>
 (impl_Agent_drop p0 i1).bind fun t81_2 =>
 some (t81_2, [(x13.1, t77.1, t77.2.1, t77.2.2.1, t77.2.2.2.1, t77.2.2.2.2)]))
 ((ix p0.2.2.2.2.2.2.2.2.2.2.2.2.1.length i1).bind fun j22 =>
 (p0.2.2.2.2.2.2.2.2.2.2.2.2.1[j22]?).bind fun x24 =>
 (ix p0.2.2.2.2.2.2.2.2.2.2.2.2.1.length i1).bind fun j26 =>
 (p0.2.2.2.2.2.2.2.2.2.2.2.2.1[j26]?).bind fun x =>
 (impl_Agent_begin (p0.1, p0.2.1, p0.2.2.1, p0.2.2.2.1, p0.2.2.2.2.1, p0.2.2.2.2.2.1, p0.2.2.2.2.2.2.1, p0.2.2.2.2.2.2.2.1, p0.2.2.2.2.2.2.2.2.1, p0.2.2.2.2.2.2.2.2.2.1, p0.2.2.2.2.2.2.2.2.2.2.1, p0.2.2.2.2.2.2.2.2.2.2.2.1, p0.2.2.2.2.2.2.2.2.2.2.2.2.1.set j26 (x.1, x.2.1, x.2.2.1, x.2.2.2.1, x.2.2.2.2.1, x.2.2.2.2.2.1, x.2.2.2.2.2.2.1, x.2.2.2.2.2.2.2.1, x.2.2.2.2.2.2.2.2.1, x.2.2.2.2.2.2.2.2.2.1, x.2.2.2.2.2.2.2.2.2.2.1, x.2.2.2.2.2.2.2.2.2.2.2.1, x.2.2.2.2.2.2.2.2.2.2.2.2.1, x.2.2.2.2.2.2.2.2.2.2.2.2.2.1, x.2.2.2.2.2.2.2.2.2.2.2.2.2.2.1, x.2.2.2.2.2.2.2.2.2.2.2.2.2.2.2.1, x.2.2.2.2.2.2.2.2.2.2.2.2.2.2.2.2.1, x.2.2.2.2.2.2.2.2.2.2.2.2.2.2.2.2.2.1, x.2.2.2.2.2.2.2.2.2.2.2.2.2.2.2.2.2.2.1, x.2.2.2.2.2.2.2.2.2.2.2.2.2.2.2.2.2.2.2.1, w64 (x24.2.2.2.2.2.2.2.2.2.2.2.2.2.2.2.2.2.2.2.2 + 1)), p0.2.2.2.2.2.2.2.2.2.2.2.2.2.1, p0.2.2.2.2.2.2.2.2.2.2.2.2.2.2) i1).bind fun t30 =>
 some (t30, []))))
def F_impl_Agent_finish : Fn := ⟨[.ptr cAgent true, .val false cNI false], [.val false (.one (.sl cDone)) false], fun a => impl_Agent_finish a.1 a.2⟩
theorem m_impl_Agent_finish : Meets Tryz.prog 236 F_impl_Agent_finish := mkM g_320 236 Tryz.f236 [] F_impl_Agent_finish Tryz.func236 (by kernel_rfl) (by kernel_rfl) (by kernel_rfl)
def fns_236 : List (FuncId × Fn) := (236, F_impl_Agent_finish) :: fns_320
theorem g_236 : Good Tryz.prog ⟨tis, fns_236, [], false⟩ := g_320.cons m_impl_Agent_finish
def impl_Agent_work (a0 : Agent) (k1 : Int) : Option (Agent × List Done) :=
 (ix a0.2.2.2.2.2.2.2.2.2.2.2.2.1.length k1).bind fun j11 =>
 (a0.2.2.2.2.2.2.2.2.2.2.2.2.1[j11]?).bind fun x19 =>
 cond (x19.2.2.1 == 0)
 ((impl_Agent_read a0 k1).bind fun t23 =>
 some (t23, []))
 ((a0.2.2.2.2.2.2.2.2.2.2.2.2.1[j11]?).bind fun x28 =>
 cond (x28.2.2.1 == 2)
 ((impl_Agent_finish a0 k1).bind fun t32 =>
 some t32)
 ((a0.2.2.2.2.2.2.2.2.2.2.2.2.1[j11]?).bind fun x37 =>
 (a0.2.2.2.2.2.2.2.2.2.2.2.2.1[j11]?).bind fun x42 =>
 let t33 := decide (x37.2.2.2.2.2.2.2.2.2.2.2.2.2.2.2.2.2.2.2.1 < (x42.2.2.2.2.2.2.2.1.length : Int))
 cond t33
 ((a0.2.2.2.2.2.2.2.2.2.2.2.2.1[j11]?).bind fun x48 =>
 (a0.2.2.2.2.2.2.2.2.2.2.2.2.1[j11]?).bind fun x =>
 some ((a0.1, a0.2.1, a0.2.2.1, a0.2.2.2.1, a0.2.2.2.2.1, a0.2.2.2.2.2.1, a0.2.2.2.2.2.2.1, a0.2.2.2.2.2.2.2.1, a0.2.2.2.2.2.2.2.2.1, a0.2.2.2.2.2.2.2.2.2.1, a0.2.2.2.2.2.2.2.2.2.2.1, a0.2.2.2.2.2.2.2.2.2.2.2.1, a0.2.2.2.2.2.2.2.2.2.2.2.2.1.set j11 (x.1, x.2.1, x.2.2.1, x.2.2.2.1, x.2.2.2.2.1, x.2.2.2.2.2.1, x.2.2.2.2.2.2.1, x.2.2.2.2.2.2.2.1, x.2.2.2.2.2.2.2.2.1, x.2.2.2.2.2.2.2.2.2.1, x.2.2.2.2.2.2.2.2.2.2.1, x.2.2.2.2.2.2.2.2.2.2.2.1, x.2.2.2.2.2.2.2.2.2.2.2.2.1, x.2.2.2.2.2.2.2.2.2.2.2.2.2.1, x.2.2.2.2.2.2.2.2.2.2.2.2.2.2.1, x.2.2.2.2.2.2.2.2.2.2.2.2.2.2.2.1, x.2.2.2.2.2.2.2.2.2.2.2.2.2.2.2.2.1, x.2.2.2.2.2.2.2.2.2.2.2.2.2.2.2.2.2.1, x.2.2.2.2.2.2.2.2.2.2.2.2.2.2.2.2.2.2.1, w64 (x48.2.2.2.2.2.2.2.2.2.2.2.2.2.2.2.2.2.2.2.1 + 1), x.2.2.2.2.2.2.2.2.2.2.2.2.2.2.2.2.2.2.2.2), a0.2.2.2.2.2.2.2.2.2.2.2.2.2.1, a0.2.2.2.2.2.2.2.2.2.2.2.2.2.2), []))
 ((a0.2.2.2.2.2.2.2.2.2.2.2.2.1[j11]?).bind fun x_1 =>
 some ((a0.1, a0.2.1, a0.2.2.1, a0.2.2.2.1, a0.2.2.2.2.1, a0.2.2.2.2.2.1, a0.2.2.2.2.2.2.1, a0.2.2.2.2.2.2.2.1, a0.2.2.2.2.2.2.2.2.1, a0.2.2.2.2.2.2.2.2.2.1, a0.2.2.2.2.2.2.2.2.2.2.1, a0.2.2.2.2.2.2.2.2.2.2.2.1, a0.2.2.2.2.2.2.2.2.2.2.2.2.1.set j11 (x_1.1, x_1.2.1, 2, x_1.2.2.2.1, x_1.2.2.2.2.1, x_1.2.2.2.2.2.1, x_1.2.2.2.2.2.2.1, x_1.2.2.2.2.2.2.2.1, x_1.2.2.2.2.2.2.2.2.1, x_1.2.2.2.2.2.2.2.2.2.1, x_1.2.2.2.2.2.2.2.2.2.2.1, x_1.2.2.2.2.2.2.2.2.2.2.2.1, x_1.2.2.2.2.2.2.2.2.2.2.2.2.1, x_1.2.2.2.2.2.2.2.2.2.2.2.2.2.1, x_1.2.2.2.2.2.2.2.2.2.2.2.2.2.2.1, x_1.2.2.2.2.2.2.2.2.2.2.2.2.2.2.2.1, x_1.2.2.2.2.2.2.2.2.2.2.2.2.2.2.2.2.1, x_1.2.2.2.2.2.2.2.2.2.2.2.2.2.2.2.2.2.1, x_1.2.2.2.2.2.2.2.2.2.2.2.2.2.2.2.2.2.2.1, x_1.2.2.2.2.2.2.2.2.2.2.2.2.2.2.2.2.2.2.2.1, x_1.2.2.2.2.2.2.2.2.2.2.2.2.2.2.2.2.2.2.2.2), a0.2.2.2.2.2.2.2.2.2.2.2.2.2.1, a0.2.2.2.2.2.2.2.2.2.2.2.2.2.2), []))))
def F_impl_Agent_work : Fn := ⟨[.ptr cAgent true, .val false cNI false], [.val false (.one (.sl cDone)) false], fun a => impl_Agent_work a.1 a.2⟩
theorem m_impl_Agent_work : Meets Tryz.prog 116 F_impl_Agent_work := mkM g_236 116 Tryz.f116 [] F_impl_Agent_work Tryz.func116 (by kernel_rfl) (by kernel_rfl) (by kernel_rfl)
def fns_116 : List (FuncId × Fn) := (116, F_impl_Agent_work) :: fns_236
theorem g_116 : Good Tryz.prog ⟨tis, fns_116, [], false⟩ := g_236.cons m_impl_Agent_work
def impl_Work (a0 : Agent) (k1 : Int) : Option (Agent × List Done) :=
 (impl_copyAgent a0).bind fun t9 =>
 (impl_AgentOk a0).bind fun t11 =>
 (cond (!t11)
 (some true)
 ((impl_in k1 0 (w64 ((a0.2.2.2.2.2.2.2.2.2.2.2.2.1.length : Int) - 1))).bind fun t19 =>
 some (!t19))).bind fun t21 =>
 cond t21
 (some (t9, []))
 ((impl_Agent_work t9 k1).bind fun t24 =>
 some t24)
def F_impl_Work : Fn := ⟨[.val true cAgent false, .val false cNI false], [.val true cAgent true, .val false (.one (.sl cDone)) false], fun a => impl_Work a.1 a.2⟩
theorem m_impl_Work : Meets Tryz.prog 39 F_impl_Work := mkM g_116 39 Tryz.f39 [] F_impl_Work Tryz.func39 (by kernel_rfl) (by kernel_rfl) (by kernel_rfl)
def fns_39 : List (FuncId × Fn) := (39, F_impl_Work) :: fns_116
theorem g_39 : Good Tryz.prog ⟨tis, fns_39, [], false⟩ := g_116.cons m_impl_Work
def laws_FnRetries_l0 (t17 : Bridge × Int) (t33 : Int) (t8 : Int) (t9 : Int) (b0 : Int) (b1 : List UInt8) (b6 : Int) (b7 : Int) (b8 : Int) (b9 : Int) (b10 : Int) (b11 : List UInt8) (b13 : Int) (b14 : Int) (b2 : List Pt) (b3 : List Fent) (b4 : List Vrow) (b5 : List Int) (b12 : List Job) : Option ((Int × Int × Int × List UInt8 × Int × Int × Int × Int × Int × List UInt8 × Int × Int × List Pt × List Fent × List Vrow × List Int × List Job) ⊕ ((Int × List UInt8 × Int × Int × Int × Int × Int × List UInt8 × Int × Int × List Pt × List Fent × List Vrow × List Int × List Job) ⊕ Bool)) :=
 (cond (decide (t9 < 60)) (some (decide ((b12.length : Int) > 0))) (some false)).bind fun t42 =>
 cond t42
 ((ix b12.length 0).bind fun j47 =>
 (b12[j47]?).bind fun x49 =>
 (cond (x49.2.2.1 == 2) (some (decide (t8 < (t33.tmod 6)))) (some false)).bind fun t55 =>
 cond t55
 ((impl_Tick (b0, b1, b2, b3, b4, b5, b6, b7, b8, b9, b10)).bind fun t58 =>
 (impl_Work (t58.1, t58.2.1, t58.2.2.1, t58.2.2.2.1, t58.2.2.2.2.1, t58.2.2.2.2.2.1, t58.2.2.2.2.2.2.1, t58.2.2.2.2.2.2.2.1, t58.2.2.2.2.2.2.2.2.1, t58.2.2.2.2.2.2.2.2.2.1, t58.2.2.2.2.2.2.2.2.2.2, b11, b12, b13, b14) 0).bind fun t64 =>
 cond ((t64.2.length : Int) == 1)
 ((impl_MibGet (t64.1.1, t64.1.2.1, t64.1.2.2.1, t64.1.2.2.2.1, t64.1.2.2.2.2.1, t64.1.2.2.2.2.2.1, t64.1.2.2.2.2.2.2.1, t64.1.2.2.2.2.2.2.2.1, t64.1.2.2.2.2.2.2.2.2.1, t64.1.2.2.2.2.2.2.2.2.2.1, t64.1.2.2.2.2.2.2.2.2.2.2.1) ([1, 3, 1, 1, 1] : List Int)).bind fun t74 =>
 cond (decide ((t33.tmod 6) > 3))
 ((at? t64.2 0).bind fun x78 =>
 (cond (x78.2.2.2.1 == 6)
 ((at? t64.2 0).bind fun x85 =>
 some (x85.2.2.2.2.1 == 1))
 (some false)).bind fun t90 =>
 (cond t90 (some (t74.2.2.1 == t17.1.2.1)) (some false)).bind fun t97 =>
 (cond t97 (some ((w64 (t8 + 1)) == 4)) (some false)).bind fun t101 =>
 some (.inr (.inr t101)))
 ((at? t64.2 0).bind fun x103 =>
 (cond (x103.2.2.2.1 == 0) (some (t74.2.2.1 == [111, 116, 104, 101, 114])) (some false)).bind fun t112 =>
 (cond t112 (some ((w64 (t8 + 1)) == (t33.tmod 6))) (some false)).bind fun t117 =>
 some (.inr (.inr t117))))
 (some (.inl (w64 (t8 + 1), w64 (t9 + 1), t64.1.1, t64.1.2.1, t64.1.2.2.2.2.2.2.1, t64.1.2.2.2.2.2.2.2.1, t64.1.2.2.2.2.2.2.2.2.1, t64.1.2.2.2.2.2.2.2.2.2.1, t64.1.2.2.2.2.2.2.2.2.2.2.1, t64.1.2.2.2.2.2.2.2.2.2.2.2.1, t64.1.2.2.2.2.2.2.2.2.2.2.2.2.2.1, t64.1.2.2.2.2.2.2.2.2.2.2.2.2.2.2, t64.1.2.2.1, t64.1.2.2.2.1, t64.1.2.2.2.2.1, t64.1.2.2.2.2.2.1, t64.1.2.2.2.2.2.2.2.2.2.2.2.2.1))))
 ((impl_Work (b0, b1, b2, b3, b4, b5, b6, b7, b8, b9, b10, b11, b12, b13, b14) 0).bind fun t64_1 =>
 cond ((t64_1.2.length : Int) == 1)
 ((impl_MibGet (t64_1.1.1, t64_1.1.2.1, t64_1.1.2.2.1, t64_1.1.2.2.2.1, t64_1.1.2.2.2.2.1, t64_1.1.2.2.2.2.2.1, t64_1.1.2.2.2.2.2.2.1, t64_1.1.2.2.2.2.2.2.2.1, t64_1.1.2.2.2.2.2.2.2.2.1, t64_1.1.2.2.2.2.2.2.2.2.2.1, t64_1.1.2.2.2.2.2.2.2.2.2.2.1) ([1, 3, 1, 1, 1] : List Int)).bind fun t74_1 =>
 cond (decide ((t33.tmod 6) > 3))
 ((at? t64_1.2 0).bind fun x78_1 =>
 (cond (x78_1.2.2.2.1 == 6)
 ((at? t64_1.2 0).bind fun x85_1 =>
 some (x85_1.2.2.2.2.1 == 1))
 (some false)).bind fun t90_1 =>
 (cond t90_1 (some (t74_1.2.2.1 == t17.1.2.1)) (some false)).bind fun t97_1 =>
 (cond t97_1 (some (t8 == 4)) (some false)).bind fun t101_1 =>
 some (.inr (.inr t101_1)))
 ((at? t64_1.2 0).bind fun x103_1 =>
 (cond (x103_1.2.2.2.1 == 0) (some (t74_1.2.2.1 == [111, 116, 104, 101, 114])) (some false)).bind fun t112_1 =>
 (cond t112_1 (some (t8 == (t33.tmod 6))) (some false)).bind fun t117_1 =>
 some (.inr (.inr t117_1))))
 (some (.inl (t8, w64 (t9 + 1), t64_1.1.1, t64_1.1.2.1, t64_1.1.2.2.2.2.2.2.1, t64_1.1.2.2.2.2.2.2.2.1, t64_1.1.2.2.2.2.2.2.2.2.1, t64_1.1.2.2.2.2.2.2.2.2.2.1, t64_1.1.2.2.2.2.2.2.2.2.2.2.1, t64_1.1.2.2.2.2.2.2.2.2.2.2.2.1, t64_1.1.2.2.2.2.2.2.2.2.2.2.2.2.2.1, t64_1.1.2.2.2.2.2.2.2.2.2.2.2.2.2.2, t64_1.1.2.2.1, t64_1.1.2.2.2.1, t64_1.1.2.2.2.2.1, t64_1.1.2.2.2.2.2.1, t64_1.1.2.2.2.2.2.2.2.2.2.2.2.2.1)))))
 (some (.inr (.inl (b0, b1, b6, b7, b8, b9, b10, b11, b13, b14, b2, b3, b4, b5, b12))))
def laws_FnRetries (p0 : List Int) : Option Bool :=
 (laws_big p0).bind fun t14 =>
 cond t14
 (some true)
 ((spec_DrawBridge p0).bind fun t17 =>
 (impl_AgentNew (t17.1.1, t17.1.2.1, t17.1.2.2.1, t17.1.2.2.2.1, t17.1.2.2.2.2.1, t17.1.2.2.2.2.2.1, t17.1.2.2.2.2.2.2.1, t17.1.2.2.2.2.2.2.2.1, t17.1.2.2.2.2.2.2.2.2.1, t17.1.2.2.2.2.2.2.2.2.2.1, 7) [121, 97, 114, 100]).bind fun t22 =>
 (impl_PutMsg [121, 97, 114, 100] (163, 5, 0, 0, [(([1, 3, 1, 1, 1] : List Int), 4, 0, [111, 116, 104, 101, 114], [])])).bind fun t30 =>
 (impl_Arrive t22 t30).bind fun t31 =>
 (laws_at p0 2).bind fun t33 =>
 (loop (fun z => laws_FnRetries_l0 t17 t33 z.1 z.2.1 z.2.2.1 z.2.2.2.1 z.2.2.2.2.1 z.2.2.2.2.2.1 z.2.2.2.2.2.2.1 z.2.2.2.2.2.2.2.1 z.2.2.2.2.2.2.2.2.1 z.2.2.2.2.2.2.2.2.2.1 z.2.2.2.2.2.2.2.2.2.2.1 z.2.2.2.2.2.2.2.2.2.2.2.1 z.2.2.2.2.2.2.2.2.2.2.2.2.1 z.2.2.2.2.2.2.2.2.2.2.2.2.2.1 z.2.2.2.2.2.2.2.2.2.2.2.2.2.2.1 z.2.2.2.2.2.2.2.2.2.2.2.2.2.2.2.1 z.2.2.2.2.2.2.2.2.2.2.2.2.2.2.2.2) (0, 0, t31.1, t31.2.1, t31.2.2.2.2.2.2.1, t31.2.2.2.2.2.2.2.1, t31.2.2.2.2.2.2.2.2.1, t31.2.2.2.2.2.2.2.2.2.1, t31.2.2.2.2.2.2.2.2.2.2.1, t31.2.2.2.2.2.2.2.2.2.2.2.1, t31.2.2.2.2.2.2.2.2.2.2.2.2.2.1, t31.2.2.2.2.2.2.2.2.2.2.2.2.2.2, t31.2.2.1, t31.2.2.2.1, t31.2.2.2.2.1, t31.2.2.2.2.2.1, t31.2.2.2.2.2.2.2.2.2.2.2.2.1)).bind (Sum.elim (fun d =>
 some false) (fun r => some r)))
def F_laws_FnRetries : Fn := ⟨[.val false cNY false], [.val false cNB true], fun a => laws_FnRetries a⟩
def a_laws_FnRetries : List (Nat × LoopAnn) := [(0, ⟨⟨(8, false, [dI]) :: (9, false, [dI]) :: us 38 4 (us 52 3 (us 84 6 (us 92 5 (us 99 2 (us 109 3 (us 114 3 [])))))), [(1313792, .box [dI, dS, .own 1000000000, .own 1000000001, .own 1000000002, .own 1000000003, dI, dI, dI, dI, dI, dS, .own 1000000004, dI, dI]), (1000000000, .root cPt true), (1000000001, .root cFent true), (1000000002, .root cVrow true), (1000000003, .root cNI true), (1000000004, .root cJob true)]⟩,
 ⟨[], [(1313792, .box [dI, dS, .own 1000000300, .own 1000000301, .own 1000000302, .own 1000000303, dI, dI, dI, dI, dI, dS, .own 1000000304, dI, dI]), (1000000300, .root cPt true), (1000000301, .root cFent true), (1000000302, .root cVrow true), (1000000303, .root cNI true), (1000000304, .root cJob true)]⟩, some ⟨[(2, false, [dB])], []⟩⟩)]
theorem m_laws_FnRetries : Meets Tryz.prog 6 F_laws_FnRetries := mkM g_39 6 Tryz.f6 a_laws_FnRetries F_laws_FnRetries Tryz.func6 (by kernel_rfl) (by kernel_rfl) (by kernel_rfl)
def spec_GetTlv (p0 : List Int) (i1 : Int) : Option (Int × (List Int) × Int × Bool) :=
 (cond (decide (i1 < 0)) (some true) (some (decide (i1 ≥ (p0.length : Int))))).bind fun t17 =>
 (cond t17 (some true) (some (decide ((w64 (i1 + 1)) ≥ (p0.length : Int))))).bind fun t24 =>
 cond t24
 (some (0, ([] : List Int), 0, false))
 ((at? p0 (w64 (i1 + 1))).bind fun x29 =>
 cond (decide ((w64 (x29)) > 127))
 ((cond ((w64 (x29)) != 129) (some true) (some (decide ((w64 (i1 + 2)) ≥ (p0.length : Int))))).bind fun t43 =>
 (cond t43
 (some true)
 ((at? p0 (w64 (i1 + 2))).bind fun x47 =>
 some (decide (x47 < 128)))).bind fun t50 =>
 cond t50
 (some (0, ([] : List Int), 0, false))
 ((at? p0 (w64 (i1 + 2))).bind fun x54 =>
 (cond (decide ((w64 (x54)) > 250))
 (some true)
 (some (decide ((w64 (x54)) > (w64 ((p0.length : Int) - (w64 ((w64 (i1 + 2)) + 1)))))))).bind fun t68 =>
 cond t68
 (some (0, ([] : List Int), 0, false))
 ((at? p0 i1).bind fun x72 =>
 (cut p0 (w64 ((w64 (i1 + 2)) + 1)) (w64 ((w64 ((w64 (i1 + 2)) + 1)) + (w64 (x54))))).bind fun t81 =>
 (app ([] : List Int) t81).bind fun zs82 =>
 let t6 := w64 ((w64 ((w64 (i1 + 2)) + 1)) + (w64 (x54)))
 some (w64 (x72), zs82, t6, true))))
 ((cond (decide ((w64 (x29)) > 250))
 (some true)
 (some (decide ((w64 (x29)) > (w64 ((p0.length : Int) - (w64 (i1 + 2)))))))).bind fun t68_1 =>
 cond t68_1
 (some (0, ([] : List Int), 0, false))
 ((at? p0 i1).bind fun x72_1 =>
 (cut p0 (w64 (i1 + 2)) (w64 ((w64 (i1 + 2)) + (w64 (x29))))).bind fun t81_1 =>
 (app ([] : List Int) t81_1).bind fun zs82_1 =>
 let t6_1 := w64 ((w64 (i1 + 2)) + (w64 (x29)))
 some (w64 (x72_1), zs82_1, t6_1, true))))
def spec_l4Part (r0 : Parts) (tag1 : Int) : Option (Parts × List Int) :=
 (spec_GetTlv r0.1 r0.2.1).bind fun t18 =>
 (cond r0.2.2 (some true) (some (!t18.2.2.2))).bind fun t30 =>
 (cond t30 (some true) (some (t18.1 != tag1))).bind fun t35 =>
 cond t35
 (some ((r0.1, r0.2.1, true), ([] : List Int)))
 (some ((r0.1, t18.2.2.1, r0.2.2), t18.2.1))
def spec_l1Clip (n0 : Int) : Option Int :=
 cond (decide (n0 > 2147483647))
 (some 2147483647)
 (cond (decide (n0 < (-2147483648))) (some (-2147483648)) (some n0))
def spec_PutInt_l0 (n0_1 : Int) (out3 : List Int) : Option ((Int × List Int) ⊕ (List Int)) :=
 (cond (decide (n0_1 < (-128))) (some true) (some (decide (n0_1 > 127)))).bind fun t14 =>
 cond t14
 ((app [IntKind.u8.wrap (n0_1.fdiv (2 ^ 8))] out3).bind fun zs21 =>
 some (.inl (n0_1.fdiv (2 ^ 8), zs21)))
 (some (.inr out3))
def spec_PutInt (n0 : Int) : Option (List Int) :=
 (spec_l1Clip n0).bind fun t5 =>
 (loop (fun z => spec_PutInt_l0 z.1 z.2) (t5, [IntKind.u8.wrap (t5)])).bind fun d =>
 some d
def spec_GetInt_l0 (b0 : List Int) (n4 : Int) (i5 : Int) : Option ((Int × Int) ⊕ Int) :=
 cond (decide (i5 < (b0.length : Int)))
 ((at? b0 i5).bind fun x28 =>
 let n4_1 := bor .i64 (w64 (n4 * 2 ^ 8)) (w64 (x28))
 some (.inl (n4_1, w64 (i5 + 1))))
 (some (.inr n4))
def spec_GetInt_l0_1 (b0 : List Int) (n4_3 : Int) (i5_1 : Int) : Option ((Int × Int) ⊕ Int) :=
 cond (decide (i5_1 < (b0.length : Int)))
 ((at? b0 i5_1).bind fun x28_1 =>
 let n4_4 := bor .i64 (w64 (n4_3 * 2 ^ 8)) (w64 (x28_1))
 some (.inl (n4_4, w64 (i5_1 + 1))))
 (some (.inr n4_3))
def spec_GetInt (b0 : List Int) : Option (Int × Bool) :=
 (spec_l1In (b0.length : Int) 1 4).bind fun t8 =>
 cond (!t8)
 (some (0, false))
 ((at? b0 0).bind fun x11 =>
 cond (decide ((w64 (x11)) > 127))
 ((loop (fun z => spec_GetInt_l0 b0 z.1 z.2) (w64 ((w64 (x11)) - 256), 1)).bind fun d =>
 (spec_PutInt d).bind fun t33 =>
 cond ((t33.length : Int) != (b0.length : Int)) (some (0, false)) (some (d, true)))
 ((loop (fun z => spec_GetInt_l0_1 b0 z.1 z.2) (w64 (x11), 1)).bind fun d_1 =>
 (spec_PutInt d_1).bind fun t33_1 =>
 cond ((t33_1.length : Int) != (b0.length : Int)) (some (0, false)) (some (d_1, true))))
def spec_l4Num (r0 : Parts) : Option (Parts × Int) :=
 (spec_l4Part r0 2).bind fun t7 =>
 (spec_GetInt t7.2).bind fun t8 =>
 (cond t7.1.2.2 (some true) (some (!t8.2))).bind fun t19 =>
 some ((t7.1.1, t7.1.2.1, t19), t8.1)
def spec_OidOk_l0 (o0 : List Int) (i3 : Int) : Option (Int ⊕ (Unit ⊕ Bool)) :=
 cond (decide (i3 < (o0.length : Int)))
 ((at? o0 i3).bind fun x12 =>
 (spec_l1In x12 0 100000).bind fun t14 =>
 cond (!t14) (some (.inr (.inr false))) (some (.inl (w64 (i3 + 1)))))
 (some (.inr (.inl ())))
def spec_OidOk (o0 : List Int) : Option Bool :=
 (loop (fun z => spec_OidOk_l0 o0 z) 0).bind (Sum.elim (fun d =>
 (spec_l1In (o0.length : Int) 1 10).bind fun t18 =>
 some t18) (fun r => some r))
def spec_l2Group_l0 (n0_1 : Int) (out3 : List Int) : Option ((Int × List Int) ⊕ (List Int)) :=
 cond (decide (n0_1 > 127))
 ((app [IntKind.u8.wrap (bor .i64 (band .i64 (n0_1.fdiv (2 ^ 7)) 127) 128)] out3).bind fun zs18 =>
 some (.inl (n0_1.fdiv (2 ^ 7), zs18)))
 (some (.inr out3))
def spec_l2Group (n0 : Int) : Option (List Int) :=
 (loop (fun z => spec_l2Group_l0 z.1 z.2) (n0, [IntKind.u8.wrap (band .i64 n0 127)])).bind fun d =>
 some d
def spec_GetOid_l2 (p0 : List Int) (t5_1 : Int) (t6 : Int) (t7 : Int) (t8 : Bool) : Option ((Int × Int × Int × Bool) ⊕ (Int × Int × Int × Bool)) :=
 (cond t8 (some (decide (t5_1 < (p0.length : Int)))) (some false)).bind fun t25 =>
 (cond t25 (some (decide (t7 < 4))) (some false)).bind fun t29 =>
 cond t29
 ((at? p0 t5_1).bind fun x34 =>
 let t6_1 := bor .i64 (w64 (t6 * 2 ^ 7)) (w64 (band .u8 x34 127))
 (at? p0 t5_1).bind fun x41 =>
 some (.inl (w64 (t5_1 + 1), t6_1, w64 (t7 + 1), decide (x41 > 127))))
 (some (.inr (t5_1, t6, t7, t8)))
def spec_GetOid_l0 (p0 : List Int) (t5 : Int) (t4 : List Int) : Option ((Int × List Int) ⊕ ((Int × List Int) ⊕ (Bool × List Int))) :=
 (cond (decide (t5 < (p0.length : Int))) (some (decide ((t4.length : Int) ≤ 10))) (some false)).bind fun t18 =>
 cond t18
 ((loop (fun z => spec_GetOid_l2 p0 z.1 z.2.1 z.2.2.1 z.2.2.2) (t5, 0, 0, true)).bind fun d =>
 (cond d.2.2.2
 (some true)
 ((spec_l2Group d.2.1).bind fun t51 =>
 some ((t51.length : Int) != d.2.2.1))).bind fun t55 =>
 cond t55
 (some (.inr (.inr (false, ([] : List Int)))))
 ((app t4 [d.2.1]).bind fun zs60 =>
 some (.inl (d.1, zs60))))
 (some (.inr (.inl (t5, t4))))
def spec_GetOid (p0 : List Int) : Option ((List Int) × Bool) :=
 (loop (fun z => spec_GetOid_l0 p0 z.1 z.2) (0, ([] : List Int))).bind (Sum.elim (fun d_1 =>
 (cond (d_1.1 != (p0.length : Int))
 (some true)
 ((spec_OidOk d_1.2).bind fun t67 =>
 some (!t67))).bind fun t69 =>
 cond t69 (some (([] : List Int), false)) (some (d_1.2, true))) (fun r => some (r.2, r.1)))
def spec_ValOk (p0 : Val) : Option Bool :=
 cond (p0.1 == 5)
 (cond (p0.1 == 5)
 ((cond (p0.2.1 == 0) (some (p0.2.2.1 == [])) (some false)).bind fun t16 =>
 (cond t16 (some ((p0.2.2.2.length : Int) == 0)) (some false)).bind fun t22 =>
 some t22)
 (cond (p0.1 == 2)
 ((spec_l1Clip p0.2.1).bind fun t27 =>
 (cond (t27 == p0.2.1) (some (p0.2.2.1 == [])) (some false)).bind fun t35 =>
 (cond t35 (some ((p0.2.2.2.length : Int) == 0)) (some false)).bind fun t41 =>
 some t41)
 (cond (p0.1 == 4)
 ((cond (decide ((p0.2.2.1.length : Int) ≤ 20)) (some (p0.2.1 == 0)) (some false)).bind fun t52 =>
 (cond t52 (some ((p0.2.2.2.length : Int) == 0)) (some false)).bind fun t58 =>
 some t58)
 (cond (p0.1 == 6)
 ((spec_OidOk p0.2.2.2).bind fun t63 =>
 (cond t63 (some (p0.2.1 == 0)) (some false)).bind fun t68 =>
 (cond t68 (some (p0.2.2.1 == [])) (some false)).bind fun t73 =>
 some t73)
 (some false)))))
 (cond (p0.1 == 128)
 (cond (p0.1 == 128)
 ((cond (p0.2.1 == 0) (some (p0.2.2.1 == [])) (some false)).bind fun t16_1 =>
 (cond t16_1 (some ((p0.2.2.2.length : Int) == 0)) (some false)).bind fun t22_1 =>
 some t22_1)
 (cond (p0.1 == 2)
 ((spec_l1Clip p0.2.1).bind fun t27_1 =>
 (cond (t27_1 == p0.2.1) (some (p0.2.2.1 == [])) (some false)).bind fun t35_1 =>
 (cond t35_1 (some ((p0.2.2.2.length : Int) == 0)) (some false)).bind fun t41_1 =>
 some t41_1)
 (cond (p0.1 == 4)
 ((cond (decide ((p0.2.2.1.length : Int) ≤ 20)) (some (p0.2.1 == 0)) (some false)).bind fun t52_1 =>
 (cond t52_1 (some ((p0.2.2.2.length : Int) == 0)) (some false)).bind fun t58_1 =>
 some t58_1)
 (cond (p0.1 == 6)
 ((spec_OidOk p0.2.2.2).bind fun t63_1 =>
 (cond t63_1 (some (p0.2.1 == 0)) (some false)).bind fun t68_1 =>
 (cond t68_1 (some (p0.2.2.1 == [])) (some false)).bind fun t73_1 =>
 some t73_1)
 (some false)))))
 (cond (p0.1 == 130)
 ((cond (p0.2.1 == 0) (some (p0.2.2.1 == [])) (some false)).bind fun t16_2 =>
 (cond t16_2 (some ((p0.2.2.2.length : Int) == 0)) (some false)).bind fun t22_2 =>
 some t22_2)
 (cond (p0.1 == 2)
 ((spec_l1Clip p0.2.1).bind fun t27_2 =>
 (cond (t27_2 == p0.2.1) (some (p0.2.2.1 == [])) (some false)).bind fun t35_2 =>
 (cond t35_2 (some ((p0.2.2.2.length : Int) == 0)) (some false)).bind fun t41_2 =>
 some t41_2)
 (cond (p0.1 == 4)
 ((cond (decide ((p0.2.2.1.length : Int) ≤ 20)) (some (p0.2.1 == 0)) (some false)).bind fun t52_2 =>
 (cond t52_2 (some ((p0.2.2.2.length : Int) == 0)) (some false)).bind fun t58_2 =>
 some t58_2)
 (cond (p0.1 == 6)
 ((spec_OidOk p0.2.2.2).bind fun t63_2 =>
 (cond t63_2 (some (p0.2.1 == 0)) (some false)).bind fun t68_2 =>
 (cond t68_2 (some (p0.2.2.1 == [])) (some false)).bind fun t73_2 =>
 some t73_2)
 (some false))))))
def spec_GetVal (b0 : List Int) (at1 : Int) : Option (Val × Int × Bool) :=
 (spec_GetTlv b0 at1).bind fun t16 =>
 cond (t16.1 == 2)
 ((spec_GetInt t16.2.1).bind fun t31 =>
 (cond (!t16.2.2.2) (some true) (some (!t31.2))).bind fun t53 =>
 (cond t53
 (some true)
 ((spec_ValOk (t16.1, t31.1, [], [])).bind fun t56 =>
 some (!t56))).bind fun t58 =>
 cond t58
 (some ((0, 0, [], []), 0, false))
 (some ((t16.1, t31.1, [], []), t16.2.2.1, true)))
 (cond (t16.1 == 4)
 ((cond (!t16.2.2.2) (some true) (some (!true))).bind fun t53_1 =>
 (cond t53_1
 (some true)
 ((spec_ValOk (t16.1, 0, bytesOf t16.2.1, [])).bind fun t56_1 =>
 some (!t56_1))).bind fun t58_1 =>
 cond t58_1
 (some ((0, 0, [], []), 0, false))
 (some ((t16.1, 0, bytesOf t16.2.1, []), t16.2.2.1, true)))
 (cond (t16.1 == 6)
 ((spec_GetOid t16.2.1).bind fun t44 =>
 (cond (!t16.2.2.2) (some true) (some (!t44.2))).bind fun t53_2 =>
 (cond t53_2
 (some true)
 ((spec_ValOk (t16.1, 0, [], t44.1)).bind fun t56_2 =>
 some (!t56_2))).bind fun t58_2 =>
 cond t58_2
 (some ((0, 0, [], []), 0, false))
 (some ((t16.1, 0, [], t44.1), t16.2.2.1, true)))
 (let is12 := (t16.2.1.length : Int) == 0
 (cond (!t16.2.2.2) (some true) (some (!is12))).bind fun t53_3 =>
 (cond t53_3
 (some true)
 ((spec_ValOk (t16.1, 0, [], [])).bind fun t56_3 =>
 some (!t56_3))).bind fun t58_3 =>
 cond t58_3
 (some ((0, 0, [], []), 0, false))
 (some ((t16.1, 0, [], []), t16.2.2.1, true)))))
def spec_l4Bind (b0 : List Int) : Option (Bind × Bool) :=
 (spec_l4Part (b0, 0, false) 6).bind fun t15 =>
 (spec_GetOid t15.2).bind fun t16 =>
 (spec_GetVal b0 t15.1.2.1).bind fun t25 =>
 (cond t15.1.2.2 (some true) (some (!t16.2))).bind fun t36 =>
 (cond t36 (some true) (some (!t25.2.2))).bind fun t40 =>
 (cond t40 (some true) (some (t25.2.1 != (b0.length : Int)))).bind fun t46 =>
 cond t46
 (some (([], 0, 0, [], []), false))
 (some ((t16.1, t25.1.1, t25.1.2.1, t25.1.2.2.1, t25.1.2.2.2), true))
def spec_l4Kind (k0 : Int) : Option Bool :=
 (cond (k0 == 160) (some true) (some (k0 == 161))).bind fun t8 =>
 (cond t8 (some true) (some (k0 == 162))).bind fun t12 =>
 (cond t12 (some true) (some (k0 == 163))).bind fun t16 =>
 (cond t16 (some true) (some (k0 == 165))).bind fun t20 =>
 some t20
def spec_PduOk_l0 (p0 : Pdu) (t3 : Int) : Option (Int ⊕ (Unit ⊕ Bool)) :=
 cond (decide (t3 < (p0.2.2.2.2.length : Int)))
 ((at? p0.2.2.2.2 t3).bind fun x14 =>
 (spec_OidOk x14.1).bind fun t17 =>
 (cond (!t17)
 (some true)
 ((at? p0.2.2.2.2 t3).bind fun x23 =>
 (spec_ValOk x23.2).bind fun t26 =>
 some (!t26))).bind fun t28 =>
 cond t28 (some (.inr (.inr false))) (some (.inl (w64 (t3 + 1)))))
 (some (.inr (.inl ())))
def spec_PduOk (p0 : Pdu) : Option Bool :=
 (loop (fun z => spec_PduOk_l0 p0 z) 0).bind (Sum.elim (fun d =>
 (cond (p0.1 != 162) (some (p0.1 != 165)) (some false)).bind fun t36 =>
 (cond t36
 ((cond (p0.2.2.1 != 0) (some true) (some (p0.2.2.2.1 != 0))).bind fun t45 =>
 some t45)
 (some false)).bind fun t46 =>
 cond t46
 (some false)
 ((spec_l4Kind p0.1).bind fun t49 =>
 (cond t49
 ((spec_l1Clip p0.2.1).bind fun t53 =>
 some (t53 == p0.2.1))
 (some false)).bind fun t57 =>
 (cond t57
 ((spec_l1In p0.2.2.1 0 1000).bind fun t61 =>
 some t61)
 (some false)).bind fun t62 =>
 (cond t62
 ((spec_l1In p0.2.2.2.1 0 1000).bind fun t66 =>
 some t66)
 (some false)).bind fun t67 =>
 (cond t67 (some (decide ((p0.2.2.2.2.length : Int) ≤ 10))) (some false)).bind fun t73 =>
 some t73)) (fun r => some r))
def spec_GetPdu_l0 (b0 : List Int) (b1 : Int) (b2 : Bool) (b0_1 : Int) (b1_1 : Int) (b2_1 : Int) (b3 : Int) (b0_2 : List Int) (b1_2 : Int) (b2_2 : Bool) (b4 : List Bind) : Option ((List Int × Int × Bool × Int × Int × Int × Int × List Int × Int × Bool × List Bind) ⊕ (List Int × Int × Bool × Int × Int × Int × Int × List Int × Int × Bool × List Bind)) :=
 (cond (!b2) (some (decide (b1_2 < (b0_2.length : Int)))) (some false)).bind fun t54 =>
 (cond t54 (some (decide ((b4.length : Int) ≤ 10))) (some false)).bind fun t60 =>
 cond t60
 ((spec_l4Part (b0_2, b1_2, b2_2) 48).bind fun t63 =>
 (spec_l4Bind t63.2).bind fun t64 =>
 (cond t63.1.2.2 (some true) (some (!t64.2))).bind fun t75 =>
 (app b4 [t64.1]).bind fun zs82 =>
 some (.inl (b0, b1, t75, b0_1, b1_1, b2_1, b3, t63.1.1, t63.1.2.1, t63.1.2.2, zs82)))
 (some (.inr (b0, b1, b2, b0_1, b1_1, b2_1, b3, b0_2, b1_2, b2_2, b4)))
def spec_GetPdu (p0 : List Int) : Option (Pdu × Bool) :=
 (spec_GetTlv p0 0).bind fun t15 =>
 (spec_l4Num (t15.2.1, 0, false)).bind fun t26 =>
 (spec_l4Num t26.1).bind fun t29 =>
 (spec_l4Num t29.1).bind fun t32 =>
 (spec_l4Part t32.1 48).bind fun t35 =>
 (loop (fun z => spec_GetPdu_l0 z.1 z.2.1 z.2.2.1 z.2.2.2.1 z.2.2.2.2.1 z.2.2.2.2.2.1 z.2.2.2.2.2.2.1 z.2.2.2.2.2.2.2.1 z.2.2.2.2.2.2.2.2.1 z.2.2.2.2.2.2.2.2.2.1 z.2.2.2.2.2.2.2.2.2.2) (t35.1.1, t35.1.2.1, t35.1.2.2, t15.1, t26.2, t29.2, t32.2, t35.2, 0, false, [])).bind fun d =>
 (cond (!t15.2.2.2) (some true) (some (t15.2.2.1 != (p0.length : Int)))).bind fun t91 =>
 (cond t91 (some true) (some d.2.2.1)).bind fun t97 =>
 (cond t97 (some true) (some (d.2.1 != (t15.2.1.length : Int)))).bind fun t106 =>
 (cond t106
 (some true)
 (some (d.2.2.2.2.2.2.2.2.1 != (d.2.2.2.2.2.2.2.1.length : Int)))).bind fun t118 =>
 (cond t118
 (some true)
 ((spec_PduOk (d.2.2.2.1, d.2.2.2.2.1, d.2.2.2.2.2.1, d.2.2.2.2.2.2.1, d.2.2.2.2.2.2.2.2.2.2)).bind fun t121 =>
 some (!t121))).bind fun t123 =>
 cond t123
 (some ((0, 0, 0, 0, []), false))
 (some ((d.2.2.2.1, d.2.2.2.2.1, d.2.2.2.2.2.1, d.2.2.2.2.2.2.1, d.2.2.2.2.2.2.2.2.2.2), true))
def spec_GetMsg (p0 : List UInt8) (i1 : List Int) : Option (Pdu × Int) :=
 (spec_GetTlv i1 0).bind fun t17 =>
 (spec_l4Num (t17.2.1, 0, false)).bind fun t26 =>
 (spec_l4Part t26.1 4).bind fun t28 =>
 (cond (!t17.2.2.2) (some true) (some (t17.1 != 48))).bind fun t34 =>
 (cond t34 (some true) (some (t17.2.2.1 != (i1.length : Int)))).bind fun t40 =>
 (cond t40 (some true) (some t28.1.2.2)).bind fun t46 =>
 cond t46
 (some ((0, 0, 0, 0, []), 1))
 (cond (t26.2 != 1)
 (some ((0, 0, 0, 0, []), 2))
 (cond (!((bytesOf t28.2) == p0))
 (some ((0, 0, 0, 0, []), 3))
 ((cut t17.2.1 t28.1.2.1 (t17.2.1.length : Int)).bind fun t62 =>
 (spec_GetPdu t62).bind fun t63 =>
 cond (!t63.2) (some ((0, 0, 0, 0, []), 1)) (some (t63.1, 0)))))
def spec_l11Copy (b0 : Bridge) : Option Bridge :=
 (app ([] : List Pt) b0.2.2.1).bind fun zs8 =>
 (spec_l8Copy b0.2.2.2.1).bind fun t12 =>
 (spec_l9Copy (b0.2.2.2.2.1, b0.2.2.2.2.2.1)).bind fun t16 =>
 some (b0.1, b0.2.1, zs8, t12, t16.1, t16.2, b0.2.2.2.2.2.2.1, b0.2.2.2.2.2.2.2.1, b0.2.2.2.2.2.2.2.2.1, b0.2.2.2.2.2.2.2.2.2.1, b0.2.2.2.2.2.2.2.2.2.2)
def spec_VecOk (v0 : Vec) : Option Bool :=
 (spec_l1In v0.1 1 99).bind fun t5 =>
 (cond t5
 ((spec_l1In v0.2.1 0 100000).bind fun t9 =>
 some t9)
 (some false)).bind fun t10 =>
 (cond t10
 ((spec_l1In v0.2.2.1 0 10).bind fun t14 =>
 some t14)
 (some false)).bind fun t15 =>
 (cond t15
 ((spec_l1In v0.2.2.2.1 1 99).bind fun t19 =>
 some t19)
 (some false)).bind fun t20 =>
 (cond t20
 ((spec_l1In v0.2.2.2.2 0 7).bind fun t24 =>
 some t24)
 (some false)).bind fun t25 =>
 some t25
def spec_PtOk (p0 : Pt) : Option Bool :=
 (spec_l1In p0.2.1 1 1000).bind fun t5 =>
 (cond (!t5)
 (some true)
 ((cond (!p0.1) (some p0.2.2.1) (some false)).bind fun t14 =>
 some t14)).bind fun t15 =>
 cond t15
 (some false)
 (cond (!p0.2.2.1)
 (let t2 := p0.2.2.2.1 == 0 && (p0.2.2.2.2.1 == 0 && (p0.2.2.2.2.2.1 == 0 && (p0.2.2.2.2.2.2.1 == 0 && (p0.2.2.2.2.2.2.2 == 0))))
 some t2)
 ((spec_VecOk p0.2.2.2).bind fun t25 =>
 some t25))
def spec_l11Counts (b0 : Bridge) : Option Bool :=
 (spec_l1In b0.2.2.2.2.2.2.1 0 1000000).bind fun t5 =>
 (cond t5
 ((spec_l1In b0.2.2.2.2.2.2.2.1 0 1000000).bind fun t9 =>
 some t9)
 (some false)).bind fun t10 =>
 (cond t10
 ((spec_l1In b0.2.2.2.2.2.2.2.2.1 0 1000000).bind fun t14 =>
 some t14)
 (some false)).bind fun t15 =>
 (cond t15
 ((spec_l1In b0.2.2.2.2.2.2.2.2.2.1 0 1000000).bind fun t19 =>
 some t19)
 (some false)).bind fun t20 =>
 (cond t20
 ((spec_l1In b0.2.2.2.2.2.2.2.2.2.2 0 1000000).bind fun t24 =>
 some t24)
 (some false)).bind fun t25 =>
 some t25
def spec_BridgeOk_l0 (b0 : Bridge) (i3 : Int) : Option (Int ⊕ (Unit ⊕ Bool)) :=
 cond (decide (i3 < (b0.2.2.1.length : Int)))
 ((at? b0.2.2.1 i3).bind fun x14 =>
 (spec_PtOk x14).bind fun t16 =>
 cond (!t16) (some (.inr (.inr false))) (some (.inl (w64 (i3 + 1)))))
 (some (.inr (.inl ())))
def spec_BridgeOk (b0 : Bridge) : Option Bool :=
 (loop (fun z => spec_BridgeOk_l0 b0 z) 0).bind (Sum.elim (fun d =>
 (spec_l1In b0.1 1 99).bind fun t20 =>
 (cond t20 (some (decide ((b0.2.1.length : Int) ≤ 10))) (some false)).bind fun t26 =>
 (cond t26
 ((spec_l1In (b0.2.2.1.length : Int) 1 6).bind fun t31 =>
 some t31)
 (some false)).bind fun t32 =>
 (cond t32
 ((spec_FdbOk b0.2.2.2.1).bind fun t36 =>
 some t36)
 (some false)).bind fun t37 =>
 (cond t37
 ((spec_VtabOk (b0.2.2.2.2.1, b0.2.2.2.2.2.1) (b0.2.2.1.length : Int)).bind fun t44 =>
 some t44)
 (some false)).bind fun t45 =>
 (cond t45
 ((spec_l11Counts b0).bind fun t48 =>
 some t48)
 (some false)).bind fun t49 =>
 some t49) (fun r => some r))
def spec_SameOid_l0 (a0 : List Int) (b1 : List Int) (i5 : Int) : Option (Int ⊕ (Unit ⊕ Bool)) :=
 cond (decide (i5 < (a0.length : Int)))
 ((at? a0 i5).bind fun x19 =>
 (at? b1 i5).bind fun x23 =>
 cond (x19 != x23) (some (.inr (.inr false))) (some (.inl (w64 (i5 + 1)))))
 (some (.inr (.inl ())))
def spec_SameOid (a0 : List Int) (b1 : List Int) : Option Bool :=
 cond ((a0.length : Int) != (b1.length : Int))
 (some false)
 ((loop (fun z => spec_SameOid_l0 a0 b1 z) 0).bind (Sum.elim (fun d =>
 some true) (fun r => some r)))
def spec_Below (o0 : List Int) (head1 : List Int) : Option Bool :=
 (cond (decide ((o0.length : Int) > (head1.length : Int)))
 ((cut o0 0 (head1.length : Int)).bind fun t14 =>
 (spec_SameOid t14 head1).bind fun t16 =>
 some t16)
 (some false)).bind fun t17 =>
 some t17
def spec_l18Below (o0 : List Int) : Option ((List Int) × Bool) :=
 (spec_Below o0 ([1, 3, 1] : List Int)).bind fun t6 =>
 cond (!t6)
 (some (([] : List Int), false))
 ((cut o0 3 (o0.length : Int)).bind fun t10 =>
 some (t10, true))
def spec_l18May (p0 : Bridge) (i1 : List Int) : Option Bool :=
 (spec_l18Below i1).bind fun t9 =>
 cond (!t9.2)
 (some false)
 (cond ((t9.1.length : Int) == 2)
 ((at? t9.1 0).bind fun x18 =>
 (cond (x18 == 1)
 ((at? t9.1 1).bind fun x23 =>
 some (x23 == 1))
 (some false)).bind fun t26 =>
 some t26)
 (cond ((t9.1.length : Int) != 3)
 (some false)
 ((at? t9.1 0).bind fun x31 =>
 cond (x31 == 2)
 ((at? t9.1 1).bind fun x36 =>
 (cond (x36 == 2)
 (some true)
 ((at? t9.1 1).bind fun x41 =>
 some (x41 == 4))).bind fun t44 =>
 (cond t44
 ((at? t9.1 2).bind fun x47 =>
 (spec_l1In x47 1 (p0.2.2.1.length : Int)).bind fun t52 =>
 some t52)
 (some false)).bind fun t53 =>
 some t53)
 (cond (x31 == 3)
 ((at? t9.1 1).bind fun x57 =>
 (cond (x57 == 1)
 ((at? t9.1 2).bind fun x62 =>
 (spec_l1In x62 1 99).bind fun t64 =>
 some t64)
 (some false)).bind fun t65 =>
 (cond t65
 (some true)
 ((at? t9.1 1).bind fun x68 =>
 (cond (x68 == 2)
 (some true)
 ((at? t9.1 1).bind fun x73 =>
 some (x73 == 3))).bind fun t76 =>
 (cond t76
 ((at? t9.1 2).bind fun x81 =>
 (spec_RowAt (p0.2.2.2.2.1, p0.2.2.2.2.2.1) x81).bind fun t83 =>
 some (decide (t83 ≥ 0)))
 (some false)).bind fun t85 =>
 some t85)).bind fun t86 =>
 some t86)
 (some false)))))
def spec_l18Seen (p0 : Bridge) (i1 : List Int) : Option Bool :=
 (spec_l18Below i1).bind fun t9 =>
 cond (!t9.2)
 (some false)
 (cond ((t9.1.length : Int) == 2)
 ((at? t9.1 0).bind fun x19 =>
 (cond (x19 == 1)
 ((at? t9.1 1).bind fun x24 =>
 (spec_l1In x24 2 5).bind fun t26 =>
 some t26)
 (some false)).bind fun t27 =>
 some t27)
 (cond ((t9.1.length : Int) == 3)
 ((at? t9.1 0).bind fun x31 =>
 (cond (x31 == 2)
 ((at? t9.1 1).bind fun x36 =>
 (cond (x36 == 1)
 (some true)
 ((at? t9.1 1).bind fun x41 =>
 some (x41 == 3))).bind fun t44 =>
 some t44)
 (some false)).bind fun t45 =>
 (cond t45
 ((at? t9.1 2).bind fun x48 =>
 (spec_l1In x48 1 (p0.2.2.1.length : Int)).bind fun t53 =>
 some t53)
 (some false)).bind fun t54 =>
 some t54)
 (cond ((t9.1.length : Int) == 4)
 ((at? t9.1 0).bind fun x58 =>
 (cond (x58 == 4)
 ((at? t9.1 1).bind fun x63 =>
 some (x63 == 1))
 (some false)).bind fun t66 =>
 (cond t66
 ((at? t9.1 2).bind fun x71 =>
 (at? t9.1 3).bind fun x74 =>
 (spec_l8At p0.2.2.2.1 x71 x74).bind fun t76 =>
 some (decide (t76 ≥ 0)))
 (some false)).bind fun t78 =>
 some t78)
 (some false))))
def spec_l18Port (b0 : Bridge) (c1 : Int) (p2 : Int) (n3 : Int) : Option (Bridge × Int) :=
 cond (c1 == 2)
 ((spec_l1In n3 1 1000).bind fun t13 =>
 cond (!t13)
 (some (b0, 2))
 ((ix b0.2.2.1.length p2).bind fun j20 =>
 (b0.2.2.1[j20]?).bind fun x =>
 some ((b0.1, b0.2.1, b0.2.2.1.set j20 (x.1, n3, x.2.2.1, x.2.2.2.1, x.2.2.2.2.1, x.2.2.2.2.2.1, x.2.2.2.2.2.2.1, x.2.2.2.2.2.2.2), b0.2.2.2.1, b0.2.2.2.2.1, b0.2.2.2.2.2.1, b0.2.2.2.2.2.2.1, b0.2.2.2.2.2.2.2.1, b0.2.2.2.2.2.2.2.2.1, b0.2.2.2.2.2.2.2.2.2.1, b0.2.2.2.2.2.2.2.2.2.2), 0)))
 ((ix b0.2.2.2.2.2.1.length p2).bind fun j28 =>
 (b0.2.2.2.2.2.1[j28]?).bind fun x_1 =>
 some ((b0.1, b0.2.1, b0.2.2.1, b0.2.2.2.1, b0.2.2.2.2.1, b0.2.2.2.2.2.1.set j28 n3, b0.2.2.2.2.2.2.1, b0.2.2.2.2.2.2.2.1, b0.2.2.2.2.2.2.2.2.1, b0.2.2.2.2.2.2.2.2.2.1, b0.2.2.2.2.2.2.2.2.2.2), 0))
def spec_l18Status (b0 : Bridge) (id1 : Int) (n2 : Int) : Option (Bridge × Int) :=
 (spec_RowAt (b0.2.2.2.2.1, b0.2.2.2.2.2.1) id1).bind fun t12 =>
 (cond (n2 == 4) (some (decide (t12 < 0))) (some false)).bind fun t19 =>
 (cond t19 (some (decide ((b0.2.2.2.2.1.length : Int) < 6))) (some false)).bind fun t26 =>
 cond t26
 ((spec_l9Row (b0.2.2.2.2.1, b0.2.2.2.2.2.1) (id1, 0, 0)).bind fun t31 =>
 some ((b0.1, b0.2.1, b0.2.2.1, b0.2.2.2.1, t31.1, t31.2, b0.2.2.2.2.2.2.1, b0.2.2.2.2.2.2.2.1, b0.2.2.2.2.2.2.2.2.1, b0.2.2.2.2.2.2.2.2.2.1, b0.2.2.2.2.2.2.2.2.2.2), 0))
 ((cond (n2 == 6) (some (decide (t12 ≥ 0))) (some false)).bind fun t40 =>
 cond t40
 ((cutIx b0.2.2.2.2.1.length 0 t12).bind fun p =>
 (app ([] : List Vrow) ((b0.2.2.2.2.1.take p.2).drop p.1)).bind fun zs47 =>
 (cutIx b0.2.2.2.2.1.length (w64 (t12 + 1)) (b0.2.2.2.2.1.length : Int)).bind fun p_1 =>
 (app zs47 ((b0.2.2.2.2.1.take p_1.2).drop p_1.1)).bind fun zs54 =>
 some ((b0.1, b0.2.1, b0.2.2.1, b0.2.2.2.1, zs54, b0.2.2.2.2.2.1, b0.2.2.2.2.2.2.1, b0.2.2.2.2.2.2.2.1, b0.2.2.2.2.2.2.2.2.1, b0.2.2.2.2.2.2.2.2.2.1, b0.2.2.2.2.2.2.2.2.2.2), 0))
 (some (b0, 2)))
def spec_l18Row (b0 : Bridge) (c1 : Int) (id2 : Int) (n3 : Int) : Option (Bridge × Int) :=
 cond (c1 == 1)
 ((spec_l18Status b0 id2 n3).bind fun t16 =>
 some t16)
 ((shl .i64 1 (IntKind.u64.wrap ((b0.2.2.1.length : Int)))).bind fun t24 =>
 (spec_l1In n3 0 (w64 (t24 - 1))).bind fun t26 =>
 cond (!t26)
 (some (b0, 2))
 ((spec_RowAt (b0.2.2.2.2.1, b0.2.2.2.2.2.1) id2).bind fun t35 =>
 (ix b0.2.2.2.2.1.length t35).bind fun j36 =>
 (b0.2.2.2.2.1[j36]?).bind fun x37 =>
 cond (c1 == 2)
 ((spec_l9Row (b0.2.2.2.2.1, b0.2.2.2.2.2.1) (x37.1, n3, x37.2.2)).bind fun t47 =>
 some ((b0.1, b0.2.1, b0.2.2.1, b0.2.2.2.1, t47.1, t47.2, b0.2.2.2.2.2.2.1, b0.2.2.2.2.2.2.2.1, b0.2.2.2.2.2.2.2.2.1, b0.2.2.2.2.2.2.2.2.2.1, b0.2.2.2.2.2.2.2.2.2.2), 0))
 ((spec_l9Row (b0.2.2.2.2.1, b0.2.2.2.2.2.1) (x37.1, x37.2.1, n3)).bind fun t47_1 =>
 some ((b0.1, b0.2.1, b0.2.2.1, b0.2.2.2.1, t47_1.1, t47_1.2, b0.2.2.2.2.2.2.1, b0.2.2.2.2.2.2.2.1, b0.2.2.2.2.2.2.2.2.1, b0.2.2.2.2.2.2.2.2.2.1, b0.2.2.2.2.2.2.2.2.2.2), 0))))
def spec_l18One (p0 : Bridge) (i1 : Bind) : Option (Bridge × Int) :=
 (spec_l11Copy p0).bind fun t9 =>
 (spec_l18May p0 i1.1).bind fun t13 =>
 cond (!t13)
 ((spec_l18Seen p0 i1.1).bind fun t18 =>
 cond t18 (some (t9, 4)) (some (t9, 3)))
 ((cut i1.1 3 (i1.1.length : Int)).bind fun t23 =>
 (at? t23 0).bind fun x25 =>
 cond (x25 == 1)
 (cond (i1.2.1 != 4)
 (some (t9, 1))
 (let t34 := decide ((i1.2.2.2.1.length : Int) > 10)
 cond t34
 (some (t9, 2))
 (some ((t9.1, i1.2.2.2.1, t9.2.2.1, t9.2.2.2.1, t9.2.2.2.2.1, t9.2.2.2.2.2.1, t9.2.2.2.2.2.2.1, t9.2.2.2.2.2.2.2.1, t9.2.2.2.2.2.2.2.2.1, t9.2.2.2.2.2.2.2.2.2.1, t9.2.2.2.2.2.2.2.2.2.2), 0))))
 (cond (i1.2.1 != 2)
 (some (t9, 1))
 ((at? t23 0).bind fun x52 =>
 cond (x52 == 2)
 ((at? t23 1).bind fun x57 =>
 (at? t23 2).bind fun x60 =>
 (spec_l18Port t9 x57 (w64 (x60 - 1)) i1.2.2.1).bind fun t66 =>
 some t66)
 ((at? t23 1).bind fun x71 =>
 (at? t23 2).bind fun x74 =>
 (spec_l18Row t9 x71 x74 i1.2.2.1).bind fun t79 =>
 some t79))))
def spec_l11One (n0 : Int) : Option Int :=
 cond (decide (n0 ≥ 1000000)) (some n0) (some (w64 (n0 + 1)))
def spec_LessVec (a0 : Vec) (b1 : Vec) : Option Bool :=
 cond (a0.1 != b1.1)
 (some (decide (a0.1 < b1.1)))
 (cond (a0.2.1 != b1.2.1)
 (some (decide (a0.2.1 < b1.2.1)))
 (cond (a0.2.2.2.1 != b1.2.2.2.1)
 (let t4 := decide (a0.2.2.2.1 < b1.2.2.2.1)
 some t4)
 (let t4_1 := decide (a0.2.2.2.2 < b1.2.2.2.2)
 some t4_1)))
def spec_StepVec (v0 : Vec) (cost1 : Int) : Option (Vec × Bool) :=
 (spec_VecOk v0).bind fun t8 =>
 (cond (!t8)
 (some true)
 ((spec_l1In cost1 1 1000).bind fun t12 =>
 some (!t12))).bind fun t14 =>
 cond t14
 (some (v0, false))
 ((spec_VecOk (v0.1, w64 (v0.2.1 + cost1), w64 (v0.2.2.1 + 1), v0.2.2.2.1, v0.2.2.2.2)).bind fun t27 =>
 cond (!t27)
 (some (v0, false))
 (some ((v0.1, w64 (v0.2.1 + cost1), w64 (v0.2.2.1 + 1), v0.2.2.2.1, v0.2.2.2.2), true)))
def spec_BestVec_l0 (p0 : Int) (i1 : List Pt) (t8 : Int) (t9 : Int) (b0 : Int) (b1 : Int) (b2 : Int) (b3 : Int) (b4 : Int) (b0_1 : Int) (b1_1 : Int) (b2_1 : Int) (b3_1 : Int) (b4_1 : Int) : Option ((Int × Int × Int × Int × Int × Int × Int × Int × Int × Int × Int × Int) ⊕ (Int × Int × Int × Int × Int × Int × Int × Int × Int × Int × Int)) :=
 cond (decide (t9 < (i1.length : Int)))
 ((at? i1 t9).bind fun x24 =>
 (cond (!x24.1)
 (some true)
 ((at? i1 t9).bind fun x31 =>
 some (!x31.2.2.1))).bind fun t35 =>
 cond t35
 (some (.inl (t8, w64 (t9 + 1), b0, b1, b2, b3, b4, b0_1, b1_1, b2_1, b3_1, b4_1)))
 ((at? i1 t9).bind fun x39 =>
 (at? i1 t9).bind fun x44 =>
 (spec_StepVec x39.2.2.2 x44.2.1).bind fun t47 =>
 (cond t47.2 (some (decide (t47.1.1 < p0))) (some false)).bind fun t56 =>
 (cond t56
 ((cond (decide (t8 < 0))
 (some true)
 ((spec_LessVec t47.1 (b0_1, b1_1, b2_1, b3_1, b4_1)).bind fun t63 =>
 some t63)).bind fun t64 =>
 some t64)
 (some false)).bind fun t65 =>
 cond t65
 (some (.inl (t9, w64 (t9 + 1), t47.1.1, t47.1.2.1, t47.1.2.2.1, p0, 0, t47.1.1, t47.1.2.1, t47.1.2.2.1, t47.1.2.2.2.1, t47.1.2.2.2.2)))
 (some (.inl (t8, w64 (t9 + 1), b0, b1, b2, b3, b4, b0_1, b1_1, b2_1, b3_1, b4_1)))))
 (some (.inr (t8, b0, b1, b2, b3, b4, b0_1, b1_1, b2_1, b3_1, b4_1)))
def spec_BestVec (p0 : Int) (i1 : List Pt) : Option (Vec × Int) :=
 (loop (fun z => spec_BestVec_l0 p0 i1 z.1 z.2.1 z.2.2.1 z.2.2.2.1 z.2.2.2.2.1 z.2.2.2.2.2.1 z.2.2.2.2.2.2.1 z.2.2.2.2.2.2.2.1 z.2.2.2.2.2.2.2.2.1 z.2.2.2.2.2.2.2.2.2.1 z.2.2.2.2.2.2.2.2.2.2.1 z.2.2.2.2.2.2.2.2.2.2.2) ((-1), 0, p0, 0, 0, p0, 0, 0, 0, 0, 0, 0)).bind fun d =>
 some ((d.2.1, d.2.2.1, d.2.2.2.1, d.2.2.2.2.1, d.2.2.2.2.2.1), d.1)
def spec_SayVec (id0 : Int) (l1 : List Pt) (port2 : Int) : Option Vec :=
 (spec_BestVec id0 l1).bind fun t12 =>
 some (t12.1.1, t12.1.2.1, t12.1.2.2.1, t12.1.2.2.2.1, port2)
def spec_RoleOf (id0 : Int) (l1 : List Pt) (port2 : Int) : Option Int :=
 (spec_l1In port2 0 (w64 ((l1.length : Int) - 1))).bind fun t13 =>
 (cond (!t13)
 (some true)
 ((at? l1 port2).bind fun x18 =>
 some (!x18.1))).bind fun t22 =>
 cond t22
 (some 4)
 ((spec_BestVec id0 l1).bind fun t26 =>
 cond (t26.2 == port2)
 (some 1)
 ((at? l1 port2).bind fun x36 =>
 (cond (!x36.2.2.1)
 (some true)
 ((spec_SayVec id0 l1 port2).bind fun t44 =>
 (at? l1 port2).bind fun x47 =>
 (spec_LessVec t44 x47.2.2.2).bind fun t50 =>
 some t50)).bind fun t51 =>
 cond t51 (some 2) (some 3)))
def spec_Sends_l0 (id0 : Int) (l1 : List Pt) (n5 : Int) (i6 : Int) : Option ((Int × Int) ⊕ Int) :=
 (cond (decide (i6 < (l1.length : Int))) (some (decide (i6 < 6))) (some false)).bind fun t14 =>
 cond t14
 ((spec_RoleOf id0 l1 i6).bind fun t20 =>
 cond (decide (t20 ≤ 2))
 ((shl .i64 1 (IntKind.u64.wrap (i6))).bind fun t25 =>
 some (.inl (bor .i64 n5 t25, w64 (i6 + 1))))
 (some (.inl (n5, w64 (i6 + 1)))))
 (some (.inr n5))
def spec_Sends (id0 : Int) (l1 : List Pt) : Option Int :=
 (loop (fun z => spec_Sends_l0 id0 l1 z.1 z.2) (0, 0)).bind fun d =>
 some d
def spec_l9Bit (n0 : Int) (port1 : Int) : Option Bool :=
 (spec_l1In port1 0 7).bind fun t6 =>
 (cond t6
 ((shr .i64 n0 (IntKind.u64.wrap (port1))).bind fun t11 =>
 some ((band .i64 t11 1) == 1))
 (some false)).bind fun t14 =>
 some t14
def spec_FlushPort_l0 (l0 : List Fent) (port1 : Int) (i6 : Int) (out5 : List Fent) : Option ((Int × List Fent) ⊕ (List Fent)) :=
 cond (decide (i6 < (l0.length : Int)))
 ((at? l0 i6).bind fun x16 =>
 (cond x16.2.2.2.2
 (some true)
 ((at? l0 i6).bind fun x22 =>
 some (x22.2.2.1 != port1))).bind fun t27 =>
 cond t27
 ((at? l0 i6).bind fun x31 =>
 (app out5 [x31]).bind fun zs34 =>
 some (.inl (w64 (i6 + 1), zs34)))
 (some (.inl (w64 (i6 + 1), out5))))
 (some (.inr out5))
def spec_FlushPort (l0 : List Fent) (port1 : Int) : Option (List Fent) :=
 (loop (fun z => spec_FlushPort_l0 l0 port1 z.1 z.2) (0, ([] : List Fent))).bind fun d =>
 some d
def spec_l11Turned_l0 (b0 : Bridge) (t13 : Int) (i4 : Int) (b0_1 : Int) (b1 : List UInt8) (b6 : Int) (b7 : Int) (b8 : Int) (b9 : Int) (b10 : Int) (b3 : List Fent) : Option ((Int × Int × List UInt8 × Int × Int × Int × Int × Int × List Fent) ⊕ (Int × List UInt8 × Int × Int × Int × Int × Int × List Fent)) :=
 cond (decide (i4 < (b0.2.2.1.length : Int)))
 ((spec_l9Bit t13 i4).bind fun t23 =>
 cond (!t23)
 ((spec_FlushPort b3 i4).bind fun t28 =>
 some (.inl (w64 (i4 + 1), b0_1, b1, b6, b7, b8, b9, b10, t28)))
 (some (.inl (w64 (i4 + 1), b0_1, b1, b6, b7, b8, b9, b10, b3))))
 (some (.inr (b0_1, b1, b6, b7, b8, b9, b10, b3)))
def spec_l11Turned (b0 : Bridge) : Option Bridge :=
 (spec_l11One b0.2.2.2.2.2.2.2.2.2.2).bind fun t7 =>
 (spec_Sends b0.1 b0.2.2.1).bind fun t13 =>
 (loop (fun z => spec_l11Turned_l0 b0 t13 z.1 z.2.1 z.2.2.1 z.2.2.2.1 z.2.2.2.2.1 z.2.2.2.2.2.1 z.2.2.2.2.2.2.1 z.2.2.2.2.2.2.2.1 z.2.2.2.2.2.2.2.2) (0, b0.1, b0.2.1, b0.2.2.2.2.2.2.1, b0.2.2.2.2.2.2.2.1, b0.2.2.2.2.2.2.2.2.1, b0.2.2.2.2.2.2.2.2.2.1, t7, b0.2.2.2.1)).bind fun d =>
 some (d.1, d.2.1, b0.2.2.1, d.2.2.2.2.2.2.2, b0.2.2.2.2.1, b0.2.2.2.2.2.1, d.2.2.1, d.2.2.2.1, d.2.2.2.2.1, d.2.2.2.2.2.1, d.2.2.2.2.2.2.1)
def spec_SetAll_l2 (p0 : Bridge) (i1 : List Bind) (t8 : Int) (t9 : Int) (b0_2 : Int) (b1_2 : List UInt8) (b6_2 : Int) (b7_2 : Int) (b8_2 : Int) (b9_2 : Int) (b10_2 : Int) : Option ((Int × Int × List UInt8 × Int × Int × Int × Int × Int) ⊕ ((Int × List UInt8 × Int × Int × Int × Int × Int) ⊕ (Int × Int × Int × List UInt8 × Int × Int × Int × Int × Int × List Pt × List Fent × List Vrow × List Int))) :=
 cond (decide (t9 < t8))
 ((at? i1 t9).bind fun x36 =>
 (at? i1 t8).bind fun x41 =>
 (spec_SameOid x36.1 x41.1).bind fun t44 =>
 cond t44
 ((spec_l11Copy p0).bind fun t46 =>
 some (.inr (.inr (5, w64 (t8 + 1), t46.1, t46.2.1, t46.2.2.2.2.2.2.1, t46.2.2.2.2.2.2.2.1, t46.2.2.2.2.2.2.2.2.1, t46.2.2.2.2.2.2.2.2.2.1, t46.2.2.2.2.2.2.2.2.2.2, t46.2.2.1, t46.2.2.2.1, t46.2.2.2.2.1, t46.2.2.2.2.2.1))))
 (some (.inl (w64 (t9 + 1), b0_2, b1_2, b6_2, b7_2, b8_2, b9_2, b10_2))))
 (some (.inr (.inl (b0_2, b1_2, b6_2, b7_2, b8_2, b9_2, b10_2))))
def spec_SetAll_l0 (p0 : Bridge) (i1 : List Bind) (t8 : Int) (b0 : Int) (b1 : List UInt8) (b6 : Int) (b7 : Int) (b8 : Int) (b9 : Int) (b10 : Int) (b0_1 : Int) (b1_1 : List UInt8) (b6_1 : Int) (b7_1 : Int) (b8_1 : Int) (b9_1 : Int) (b10_1 : Int) (b2 : List Pt) (b3 : List Fent) (b4 : List Vrow) (b5 : List Int) (b2_1 : List Pt) (b3_1 : List Fent) (b4_1 : List Vrow) (b5_1 : List Int) : Option ((Int × Int × List UInt8 × Int × Int × Int × Int × Int × Int × List UInt8 × Int × Int × Int × Int × Int × List Pt × List Fent × List Vrow × List Int × List Pt × List Fent × List Vrow × List Int) ⊕ ((Int × List UInt8 × Int × Int × Int × Int × Int × Int × List UInt8 × Int × Int × Int × Int × Int × List Pt × List Fent × List Vrow × List Int × List Pt × List Fent × List Vrow × List Int) ⊕ (Int × Int × Int × List UInt8 × Int × Int × Int × Int × Int × List Pt × List Fent × List Vrow × List Int))) :=
 cond (decide (t8 < (i1.length : Int)))
 ((loop (fun z => spec_SetAll_l2 p0 i1 t8 z.1 z.2.1 z.2.2.1 z.2.2.2.1 z.2.2.2.2.1 z.2.2.2.2.2.1 z.2.2.2.2.2.2.1 z.2.2.2.2.2.2.2) (0, b0, b1, b6, b7, b8, b9, b10)).bind (Sum.elim (fun d =>
 (at? i1 t8).bind fun x53 =>
 (spec_l18One (b0_1, b1_1, b2_1, b3_1, b4_1, b5_1, b6_1, b7_1, b8_1, b9_1, b10_1) x53).bind fun t55 =>
 cond (t55.2 != 0)
 ((spec_l11Copy p0).bind fun t61 =>
 some (.inr (.inr (t55.2, w64 (t8 + 1), t61.1, t61.2.1, t61.2.2.2.2.2.2.1, t61.2.2.2.2.2.2.2.1, t61.2.2.2.2.2.2.2.2.1, t61.2.2.2.2.2.2.2.2.2.1, t61.2.2.2.2.2.2.2.2.2.2, t61.2.2.1, t61.2.2.2.1, t61.2.2.2.2.1, t61.2.2.2.2.2.1))))
 (some (.inl (w64 (t8 + 1), d.1, d.2.1, d.2.2.1, d.2.2.2.1, d.2.2.2.2.1, d.2.2.2.2.2.1, d.2.2.2.2.2.2, t55.1.1, t55.1.2.1, t55.1.2.2.2.2.2.2.1, t55.1.2.2.2.2.2.2.2.1, t55.1.2.2.2.2.2.2.2.2.1, t55.1.2.2.2.2.2.2.2.2.2.1, t55.1.2.2.2.2.2.2.2.2.2.2, b2, b3, b4, b5, t55.1.2.2.1, t55.1.2.2.2.1, t55.1.2.2.2.2.1, t55.1.2.2.2.2.2.1)))) (fun r => some (.inr (.inr r)))))
 (some (.inr (.inl (b0, b1, b6, b7, b8, b9, b10, b0_1, b1_1, b6_1, b7_1, b8_1, b9_1, b10_1, b2, b3, b4, b5, b2_1, b3_1, b4_1, b5_1))))
def spec_SetAll (p0 : Bridge) (i1 : List Bind) : Option (Bridge × Int × Int) :=
 (spec_l11Copy p0).bind fun t13 =>
 (spec_BridgeOk p0).bind fun t15 =>
 (cond (!t15) (some (decide ((i1.length : Int) > 0))) (some false)).bind fun t21 =>
 cond t21
 (some (t13, 3, 1))
 ((loop (fun z => spec_SetAll_l0 p0 i1 z.1 z.2.1 z.2.2.1 z.2.2.2.1 z.2.2.2.2.1 z.2.2.2.2.2.1 z.2.2.2.2.2.2.1 z.2.2.2.2.2.2.2.1 z.2.2.2.2.2.2.2.2.1 z.2.2.2.2.2.2.2.2.2.1 z.2.2.2.2.2.2.2.2.2.2.1 z.2.2.2.2.2.2.2.2.2.2.2.1 z.2.2.2.2.2.2.2.2.2.2.2.2.1 z.2.2.2.2.2.2.2.2.2.2.2.2.2.1 z.2.2.2.2.2.2.2.2.2.2.2.2.2.2.1 z.2.2.2.2.2.2.2.2.2.2.2.2.2.2.2.1 z.2.2.2.2.2.2.2.2.2.2.2.2.2.2.2.2.1 z.2.2.2.2.2.2.2.2.2.2.2.2.2.2.2.2.2.1 z.2.2.2.2.2.2.2.2.2.2.2.2.2.2.2.2.2.2.1 z.2.2.2.2.2.2.2.2.2.2.2.2.2.2.2.2.2.2.2.1 z.2.2.2.2.2.2.2.2.2.2.2.2.2.2.2.2.2.2.2.2.1 z.2.2.2.2.2.2.2.2.2.2.2.2.2.2.2.2.2.2.2.2.2.1 z.2.2.2.2.2.2.2.2.2.2.2.2.2.2.2.2.2.2.2.2.2.2) (0, 0, [], 0, 0, 0, 0, 0, t13.1, t13.2.1, t13.2.2.2.2.2.2.1, t13.2.2.2.2.2.2.2.1, t13.2.2.2.2.2.2.2.2.1, t13.2.2.2.2.2.2.2.2.2.1, t13.2.2.2.2.2.2.2.2.2.2, [], [], [], [], t13.2.2.1, t13.2.2.2.1, t13.2.2.2.2.1, t13.2.2.2.2.2.1)).bind (Sum.elim (fun d_1 =>
 cond ((i1.length : Int) == 0)
 (some ((d_1.2.2.2.2.2.2.2.1, d_1.2.2.2.2.2.2.2.2.1, d_1.2.2.2.2.2.2.2.2.2.2.2.2.2.2.2.2.2.2.1, d_1.2.2.2.2.2.2.2.2.2.2.2.2.2.2.2.2.2.2.2.1, d_1.2.2.2.2.2.2.2.2.2.2.2.2.2.2.2.2.2.2.2.2.1, d_1.2.2.2.2.2.2.2.2.2.2.2.2.2.2.2.2.2.2.2.2.2, d_1.2.2.2.2.2.2.2.2.2.1, d_1.2.2.2.2.2.2.2.2.2.2.1, d_1.2.2.2.2.2.2.2.2.2.2.2.1, d_1.2.2.2.2.2.2.2.2.2.2.2.2.1, d_1.2.2.2.2.2.2.2.2.2.2.2.2.2.1), 0, 0))
 ((spec_VtabOk d_1.2.2.2.2.2.2.2.2.2.2.2.2.2.2.2.2.2.2.2.2 (d_1.2.2.2.2.2.2.2.2.2.2.2.2.2.2.2.2.2.2.1.length : Int)).bind fun t75 =>
 cond (!t75)
 ((spec_l11Copy p0).bind fun t78 =>
 some (t78, 5, (i1.length : Int)))
 ((spec_l11Turned (d_1.2.2.2.2.2.2.2.1, d_1.2.2.2.2.2.2.2.2.1, d_1.2.2.2.2.2.2.2.2.2.2.2.2.2.2.2.2.2.2.1, d_1.2.2.2.2.2.2.2.2.2.2.2.2.2.2.2.2.2.2.2.1, d_1.2.2.2.2.2.2.2.2.2.2.2.2.2.2.2.2.2.2.2.2.1, d_1.2.2.2.2.2.2.2.2.2.2.2.2.2.2.2.2.2.2.2.2.2, d_1.2.2.2.2.2.2.2.2.2.1, d_1.2.2.2.2.2.2.2.2.2.2.1, d_1.2.2.2.2.2.2.2.2.2.2.2.1, d_1.2.2.2.2.2.2.2.2.2.2.2.2.1, d_1.2.2.2.2.2.2.2.2.2.2.2.2.2.1)).bind fun t82 =>
 some (t82, 0, 0)))) (fun r_1 => some ((r_1.2.2.1, r_1.2.2.2.1, r_1.2.2.2.2.2.2.2.2.2.1, r_1.2.2.2.2.2.2.2.2.2.2.1, r_1.2.2.2.2.2.2.2.2.2.2.2.1, r_1.2.2.2.2.2.2.2.2.2.2.2.2, r_1.2.2.2.2.1, r_1.2.2.2.2.2.1, r_1.2.2.2.2.2.2.1, r_1.2.2.2.2.2.2.2.1, r_1.2.2.2.2.2.2.2.2.1), r_1.1, r_1.2.1))))
end
end Go.V.W

