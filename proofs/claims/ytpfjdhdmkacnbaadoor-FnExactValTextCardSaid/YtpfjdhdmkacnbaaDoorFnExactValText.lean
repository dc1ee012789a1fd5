/- The law FnExactValText: part of the proof that for every input it returns true. No condition. -/
import Derived.Test.YtpfjdhdmkacnbaaDoorLayDoor
import Derived.Test.YtpfjdhdmkacnbaaDoorProg
import Derived.Test.YtpfjdhdmkacnbaaDoorChecked
import Derived.KernelRfl
namespace Go.V.W
open Go.Proofs
set_option linter.unusedVariables false
@[reducible] def cVal : Cs := .cons (.int .i64) (.cons (.int .i64) (.cons .str (.one (.sl (.one (.int .i64))))))
abbrev Val : Type := Int × Int × List UInt8 × List Int
def tis : List (Nat × TInfo) := [(2, ⟨false, .one (.int .i64), [], 0⟩),
  (3, ⟨false, .one (.int .i64), [], 0⟩),
  (4, ⟨false, .one .bool, [], 0⟩),
  (5, ⟨false, .one (.int .u8), [], 0⟩),
  (6, ⟨false, .one (.int .u8), [], 0⟩),
  (9, ⟨false, .one .str, [], 0⟩),
  (10, ⟨false, .one .str, [], 0⟩),
  (11, ⟨false, .one .str, [], 0⟩),
  (12, ⟨false, .one (.int .u64), [], 0⟩),
  (21, ⟨false, .one (.int .i32), [], 0⟩),
  (22, ⟨false, .one (.sl (.one (.int .i64))), [], 3⟩),
  (23, ⟨true, cVal, [(3, 0), (3, 1), (9, 2), (22, 3)], 0⟩),
  (24, ⟨true, cVal, [(3, 0), (3, 1), (9, 2), (22, 3)], 0⟩),
  (27, ⟨true, cVal, [(3, 0), (3, 1), (9, 2), (22, 3)], 0⟩),
  (31, ⟨true, .cons (.sl (.one (.int .i64))) (.cons (.int .i64) (.cons (.int .i64) (.cons .str (.one (.sl (.one (.int .i64))))))), [(22, 0), (24, 1)], 0⟩),
  (32, ⟨true, .cons (.sl (.one (.int .i64))) (.cons (.int .i64) (.cons (.int .i64) (.cons .str (.one (.sl (.one (.int .i64))))))), [(22, 0), (24, 1)], 0⟩),
  (35, ⟨true, .cons (.sl (.one (.int .i64))) (.cons (.int .i64) (.cons (.int .i64) (.cons .str (.one (.sl (.one (.int .i64))))))), [(22, 0), (27, 1)], 0⟩),
  (36, ⟨true, .cons (.sl (.one (.int .i64))) (.cons (.int .i64) (.cons (.int .i64) (.cons .str (.one (.sl (.one (.int .i64))))))), [(22, 0), (27, 1)], 0⟩),
  (40, ⟨false, .one (.sl (.cons (.sl (.one (.int .i64))) (.cons (.int .i64) (.cons (.int .i64) (.cons .str (.one (.sl (.one (.int .i64))))))))), [], 32⟩),
  (41, ⟨true, .cons (.int .i64) (.cons (.int .i64) (.cons (.int .i64) (.cons (.int .i64) (.one (.sl (.cons (.sl (.one (.int .i64))) (.cons (.int .i64) (.cons (.int .i64) (.cons .str (.one (.sl (.one (.int .i64))))))))))))), [(3, 0), (3, 1), (3, 2), (3, 3), (40, 4)], 0⟩),
  (42, ⟨true, .cons (.int .i64) (.cons (.int .i64) (.cons (.int .i64) (.cons (.int .i64) (.one (.sl (.cons (.sl (.one (.int .i64))) (.cons (.int .i64) (.cons (.int .i64) (.cons .str (.one (.sl (.one (.int .i64))))))))))))), [(3, 0), (3, 1), (3, 2), (3, 3), (40, 4)], 0⟩),
  (45, ⟨false, .one (.sl (.cons (.sl (.one (.int .i64))) (.cons (.int .i64) (.cons (.int .i64) (.cons .str (.one (.sl (.one (.int .i64))))))))), [], 36⟩),
  (46, ⟨true, .cons (.int .i64) (.cons (.int .i64) (.cons (.int .i64) (.cons (.int .i64) (.one (.sl (.cons (.sl (.one (.int .i64))) (.cons (.int .i64) (.cons (.int .i64) (.cons .str (.one (.sl (.one (.int .i64))))))))))))), [(3, 0), (3, 1), (3, 2), (3, 3), (45, 4)], 0⟩),
  (47, ⟨true, .cons (.int .i64) (.cons (.int .i64) (.cons (.int .i64) (.cons (.int .i64) (.one (.sl (.cons (.sl (.one (.int .i64))) (.cons (.int .i64) (.cons (.int .i64) (.cons .str (.one (.sl (.one (.int .i64))))))))))))), [(3, 0), (3, 1), (3, 2), (3, 3), (45, 4)], 0⟩),
  (63, ⟨false, .one (.sl (.one (.int .u8))), [], 5⟩),
  (65, ⟨false, .one (.sl (.one .str)), [], 9⟩),
  (74, ⟨false, .one .err, [], 0⟩),
  (79, ⟨false, .one (.int .u64), [], 0⟩),
  (87, ⟨false, .one (.int .u32), [], 0⟩),
  (89, ⟨false, .one (.int .u64), [], 0⟩),
  (103, ⟨false, .one (.int .u8), [], 0⟩),
  (104, ⟨false, .one (.int .u8), [], 0⟩),
  (106, ⟨false, .one (.int .i32), [], 0⟩),
  (107, ⟨false, .one (.int .i32), [], 0⟩)]
theorem tisT : Tis Tryd.prog tis := Tis.of_all (by kernel_rfl)
theorem tisE : Eqs Tryd.prog tis := Eqs.of_all (by kernel_rfl)
theorem tisD : Deep Tryd.prog tis := Deep.of_all (by kernel_rfl)
theorem mixed : Tryd.prog.follows .mixedOrders = true := by kernel_rfl
def codeOf (fn : Func) : Code := match fn.body with | some c => c | none => .skip
theorem g_0 : Good Tryd.prog ⟨tis, [], [], false⟩ := ⟨tisT, tisE, (fun f F h => by cases h), (fun f M h => by cases h), (fun h => by cases h)⟩
noncomputable def F_libItoa : Fn := libItoaF
theorem m_libItoa : Meets Tryd.prog 27 F_libItoa := meets_itoa ⟨Tryd.f27, codeOf Tryd.f27, Tryd.func27, by kernel_rfl, by kernel_rfl⟩ lay_Itoa
noncomputable def fns_27 : List (FuncId × Fn) := (27, F_libItoa) :: []
theorem g_27 : Good Tryd.prog ⟨tis, fns_27, [], false⟩ := g_0.cons m_libItoa
noncomputable def F_libJoin : Fn := libJoinF
theorem m_libJoin : Meets Tryd.prog 42 F_libJoin := meets_join ⟨Tryd.f42, codeOf Tryd.f42, Tryd.func42, by kernel_rfl, by kernel_rfl⟩ lay_Join0 lay_Join
noncomputable def fns_42 : List (FuncId × Fn) := (42, F_libJoin) :: fns_27
theorem g_42 : Good Tryd.prog ⟨tis, fns_42, [], false⟩ := g_27.cons m_libJoin
noncomputable def laws_szIntS (a0 : List Int) (left1 : Int) : Option Int :=
  let left1_1 := w64 (left1 - (a0.length : Int))
  cond (decide (left1_1 < 0)) (some (-1)) (some left1_1)
noncomputable def F_laws_szIntS : Fn := ⟨[.val false (.one (.sl (.one (.int .i64)))) false, .val false (.one (.int .i64)) false], [.val false (.one (.int .i64)) (some true)], fun a => laws_szIntS a.1 a.2⟩
def a_laws_szIntS : List (Nat × LoopAnn) := []
theorem e_laws_szIntS : fnDen ⟨tis, fns_42, [], false⟩ a_laws_szIntS Tryd.f21 (codeOf Tryd.f21) [.val false (.one (.sl (.one (.int .i64)))) false, .val false (.one (.int .i64)) false] [.val false (.one (.int .i64)) (some true)] = fun a => laws_szIntS a.1 a.2 := by kernel_rfl
theorem m_laws_szIntS : Meets Tryd.prog 21 F_laws_szIntS := by
  have h := meets_of (ann := a_laws_szIntS) (ps := [.val false (.one (.sl (.one (.int .i64)))) false, .val false (.one (.int .i64)) false]) (rs := [.val false (.one (.int .i64)) (some true)]) g_42 mixed Tryd.func21 (by kernel_rfl) (by kernel_rfl : Tryd.f21.body = some (codeOf Tryd.f21))
  rw [e_laws_szIntS] at h
  exact h
noncomputable def fns_21 : List (FuncId × Fn) := (21, F_laws_szIntS) :: fns_42
theorem g_21 : Good Tryd.prog ⟨tis, fns_21, [], false⟩ := g_42.cons m_laws_szIntS
noncomputable def laws_szVal (a0 : Val) (left1 : Int) : Option Int :=
  let left1_1 := w64 (left1 - (a0.2.2.1.length : Int))
  cond (decide (left1_1 < 0))
    (some (-1))
    ((laws_szIntS a0.2.2.2 left1_1).bind fun t15 =>
    cond (decide (t15 < 0)) (some (-1)) (some t15))
noncomputable def F_laws_szVal : Fn := ⟨[.val true cVal false, .val false (.one (.int .i64)) false], [.val false (.one (.int .i64)) (some true)], fun a => laws_szVal a.1 a.2⟩
def a_laws_szVal : List (Nat × LoopAnn) := []
theorem e_laws_szVal : fnDen ⟨tis, fns_21, [], false⟩ a_laws_szVal Tryd.f6 (codeOf Tryd.f6) [.val true cVal false, .val false (.one (.int .i64)) false] [.val false (.one (.int .i64)) (some true)] = fun a => laws_szVal a.1 a.2 := by kernel_rfl
theorem m_laws_szVal : Meets Tryd.prog 6 F_laws_szVal := by
  have h := meets_of (ann := a_laws_szVal) (ps := [.val true cVal false, .val false (.one (.int .i64)) false]) (rs := [.val false (.one (.int .i64)) (some true)]) g_21 mixed Tryd.func6 (by kernel_rfl) (by kernel_rfl : Tryd.f6.body = some (codeOf Tryd.f6))
  rw [e_laws_szVal] at h
  exact h
noncomputable def fns_6 : List (FuncId × Fn) := (6, F_laws_szVal) :: fns_21
theorem g_6 : Good Tryd.prog ⟨tis, fns_6, [], false⟩ := g_21.cons m_laws_szVal
noncomputable def spec_l1Clip (n0 : Int) : Option Int :=
  cond (decide (n0 > 2147483647))
    (some 2147483647)
    (cond (decide (n0 < (-2147483648))) (some (-2147483648)) (some n0))
noncomputable def F_spec_l1Clip : Fn := ⟨[.val false (.one (.int .i64)) false], [.val false (.one (.int .i64)) (some true)], fun a => spec_l1Clip a⟩
def a_spec_l1Clip : List (Nat × LoopAnn) := []
theorem e_spec_l1Clip : fnDen ⟨tis, fns_6, [], false⟩ a_spec_l1Clip Tryd.f36 (codeOf Tryd.f36) [.val false (.one (.int .i64)) false] [.val false (.one (.int .i64)) (some true)] = fun a => spec_l1Clip a := by kernel_rfl
theorem m_spec_l1Clip : Meets Tryd.prog 36 F_spec_l1Clip := by
  have h := meets_of (ann := a_spec_l1Clip) (ps := [.val false (.one (.int .i64)) false]) (rs := [.val false (.one (.int .i64)) (some true)]) g_6 mixed Tryd.func36 (by kernel_rfl) (by kernel_rfl : Tryd.f36.body = some (codeOf Tryd.f36))
  rw [e_spec_l1Clip] at h
  exact h
noncomputable def fns_36 : List (FuncId × Fn) := (36, F_spec_l1Clip) :: fns_6
theorem g_36 : Good Tryd.prog ⟨tis, fns_36, [], false⟩ := g_6.cons m_spec_l1Clip
noncomputable def spec_l1In (x0 : Int) (least1 : Int) (most2 : Int) : Option Bool :=
  (cond (decide (x0 ≥ least1)) (some (decide (x0 ≤ most2))) (some false)).bind fun t14 =>
  some t14
noncomputable def F_spec_l1In : Fn := ⟨[.val false (.one (.int .i64)) false, .val false (.one (.int .i64)) false, .val false (.one (.int .i64)) false], [.val false (.one .bool) (some true)], fun a => spec_l1In a.1 a.2.1 a.2.2⟩
def a_spec_l1In : List (Nat × LoopAnn) := []
theorem e_spec_l1In : fnDen ⟨tis, fns_36, [], false⟩ a_spec_l1In Tryd.f44 (codeOf Tryd.f44) [.val false (.one (.int .i64)) false, .val false (.one (.int .i64)) false, .val false (.one (.int .i64)) false] [.val false (.one .bool) (some true)] = fun a => spec_l1In a.1 a.2.1 a.2.2 := by kernel_rfl
theorem m_spec_l1In : Meets Tryd.prog 44 F_spec_l1In := by
  have h := meets_of (ann := a_spec_l1In) (ps := [.val false (.one (.int .i64)) false, .val false (.one (.int .i64)) false, .val false (.one (.int .i64)) false]) (rs := [.val false (.one .bool) (some true)]) g_36 mixed Tryd.func44 (by kernel_rfl) (by kernel_rfl : Tryd.f44.body = some (codeOf Tryd.f44))
  rw [e_spec_l1In] at h
  exact h
noncomputable def fns_44 : List (FuncId × Fn) := (44, F_spec_l1In) :: fns_36
theorem g_44 : Good Tryd.prog ⟨tis, fns_44, [], false⟩ := g_36.cons m_spec_l1In
noncomputable def spec_OidOk_l0 (o0 : List Int) (i3 : Int) : Option (Int ⊕ (Unit ⊕ Bool)) :=
  cond (decide (i3 < (o0.length : Int)))
    ((at? o0 i3).bind fun x12 =>
    (spec_l1In x12 0 100000).bind fun t14 =>
    cond (!t14) (some (.inr (.inr false))) (some (.inl (w64 (i3 + 1)))))
    (some (.inr (.inl ())))
noncomputable def spec_OidOk (o0 : List Int) : Option Bool :=
  (loop (fun z => spec_OidOk_l0 o0 z) 0).bind (Sum.elim (fun d =>
    (spec_l1In (o0.length : Int) 1 10).bind fun t18 =>
    some t18) (fun r => some r))
noncomputable def F_spec_OidOk : Fn := ⟨[.val false (.one (.sl (.one (.int .i64)))) false], [.val false (.one .bool) (some true)], fun a => spec_OidOk a⟩
def a_spec_OidOk : List (Nat × LoopAnn) := [(0, ⟨⟨[(3, false, [.dat (.int .i64)])], []⟩,
    ⟨[], []⟩, some ⟨[(2, false, [.dat .bool])], []⟩⟩)]
theorem e_spec_OidOk : fnDen ⟨tis, fns_44, [], false⟩ a_spec_OidOk Tryd.f37 (codeOf Tryd.f37) [.val false (.one (.sl (.one (.int .i64)))) false] [.val false (.one .bool) (some true)] = fun a => spec_OidOk a := by kernel_rfl
theorem m_spec_OidOk : Meets Tryd.prog 37 F_spec_OidOk := by
  have h := meets_of (ann := a_spec_OidOk) (ps := [.val false (.one (.sl (.one (.int .i64)))) false]) (rs := [.val false (.one .bool) (some true)]) g_44 mixed Tryd.func37 (by kernel_rfl) (by kernel_rfl : Tryd.f37.body = some (codeOf Tryd.f37))
  rw [e_spec_OidOk] at h
  exact h
noncomputable def fns_37 : List (FuncId × Fn) := (37, F_spec_OidOk) :: fns_44
theorem g_37 : Good Tryd.prog ⟨tis, fns_37, [], false⟩ := g_44.cons m_spec_OidOk
noncomputable def spec_ValOk (p0 : Val) : Option Bool :=
  cond (p0.1 == 5)
    (cond (p0.1 == 5)
      ((cond (p0.2.1 == 0) (some (p0.2.2.1 == [])) (some false)).bind fun t16 =>
      (cond t16 (some ((p0.2.2.2.length : Int) == 0)) (some false)).bind fun t22 =>
      some t22)
      (cond (p0.1 == 2)
        ((spec_l1Clip p0.2.1).bind fun t27 =>
        (cond (t27 == p0.2.1) (some (p0.2.2.1 == [])) (some false)).bind fun t35 =>
        (cond t35 (some ((p0.2.2.2.length : Int) == 0)) (some false)).bind fun t41 =>
        some t41)
        (cond (p0.1 == 4)
          ((cond (decide ((p0.2.2.1.length : Int) ≤ 20)) (some (p0.2.1 == 0)) (some false)).bind fun t52 =>
          (cond t52 (some ((p0.2.2.2.length : Int) == 0)) (some false)).bind fun t58 =>
          some t58)
          (cond (p0.1 == 6)
            ((spec_OidOk p0.2.2.2).bind fun t63 =>
            (cond t63 (some (p0.2.1 == 0)) (some false)).bind fun t68 =>
            (cond t68 (some (p0.2.2.1 == [])) (some false)).bind fun t73 =>
            some t73)
            (some false)))))
    (cond (p0.1 == 128)
      (cond (p0.1 == 128)
        ((cond (p0.2.1 == 0) (some (p0.2.2.1 == [])) (some false)).bind fun t16_1 =>
        (cond t16_1 (some ((p0.2.2.2.length : Int) == 0)) (some false)).bind fun t22_1 =>
        some t22_1)
        (cond (p0.1 == 2)
          ((spec_l1Clip p0.2.1).bind fun t27_1 =>
          (cond (t27_1 == p0.2.1) (some (p0.2.2.1 == [])) (some false)).bind fun t35_1 =>
          (cond t35_1 (some ((p0.2.2.2.length : Int) == 0)) (some false)).bind fun t41_1 =>
          some t41_1)
          (cond (p0.1 == 4)
            ((cond (decide ((p0.2.2.1.length : Int) ≤ 20)) (some (p0.2.1 == 0)) (some false)).bind fun t52_1 =>
            (cond t52_1 (some ((p0.2.2.2.length : Int) == 0)) (some false)).bind fun t58_1 =>
            some t58_1)
            (cond (p0.1 == 6)
              ((spec_OidOk p0.2.2.2).bind fun t63_1 =>
              (cond t63_1 (some (p0.2.1 == 0)) (some false)).bind fun t68_1 =>
              (cond t68_1 (some (p0.2.2.1 == [])) (some false)).bind fun t73_1 =>
              some t73_1)
              (some false)))))
      (cond (p0.1 == 130)
        ((cond (p0.2.1 == 0) (some (p0.2.2.1 == [])) (some false)).bind fun t16_2 =>
        (cond t16_2 (some ((p0.2.2.2.length : Int) == 0)) (some false)).bind fun t22_2 =>
        some t22_2)
        (cond (p0.1 == 2)
          ((spec_l1Clip p0.2.1).bind fun t27_2 =>
          (cond (t27_2 == p0.2.1) (some (p0.2.2.1 == [])) (some false)).bind fun t35_2 =>
          (cond t35_2 (some ((p0.2.2.2.length : Int) == 0)) (some false)).bind fun t41_2 =>
          some t41_2)
          (cond (p0.1 == 4)
            ((cond (decide ((p0.2.2.1.length : Int) ≤ 20)) (some (p0.2.1 == 0)) (some false)).bind fun t52_2 =>
            (cond t52_2 (some ((p0.2.2.2.length : Int) == 0)) (some false)).bind fun t58_2 =>
            some t58_2)
            (cond (p0.1 == 6)
              ((spec_OidOk p0.2.2.2).bind fun t63_2 =>
              (cond t63_2 (some (p0.2.1 == 0)) (some false)).bind fun t68_2 =>
              (cond t68_2 (some (p0.2.2.1 == [])) (some false)).bind fun t73_2 =>
              some t73_2)
              (some false))))))
noncomputable def F_spec_ValOk : Fn := ⟨[.val true cVal false], [.val false (.one .bool) (some true)], fun a => spec_ValOk a⟩
def a_spec_ValOk : List (Nat × LoopAnn) := []
theorem e_spec_ValOk : fnDen ⟨tis, fns_37, [], false⟩ a_spec_ValOk Tryd.f22 (codeOf Tryd.f22) [.val true cVal false] [.val false (.one .bool) (some true)] = fun a => spec_ValOk a := by kernel_rfl
theorem m_spec_ValOk : Meets Tryd.prog 22 F_spec_ValOk := by
  have h := meets_of (ann := a_spec_ValOk) (ps := [.val true cVal false]) (rs := [.val false (.one .bool) (some true)]) g_37 mixed Tryd.func22 (by kernel_rfl) (by kernel_rfl : Tryd.f22.body = some (codeOf Tryd.f22))
  rw [e_spec_ValOk] at h
  exact h
noncomputable def fns_22 : List (FuncId × Fn) := (22, F_spec_ValOk) :: fns_37
theorem g_22 : Good Tryd.prog ⟨tis, fns_22, [], false⟩ := g_37.cons m_spec_ValOk
noncomputable def spec_l2Num_b (self : Int → Option (List UInt8)) (n0 : Int) : Option (List UInt8) :=
  cond (decide (n0 < 0))
    ((self (w64 (0 - n0))).bind fun t7 =>
    (cat [45] t7).bind fun t8 =>
    some t8)
    (cond (decide (n0 < 10))
      (let t2 := bytesOf [IntKind.u8.wrap (w64 (48 + n0))]
      some t2)
      ((self (w64 (n0.tdiv 10))).bind fun t18 =>
      (cat t18 (bytesOf [IntKind.u8.wrap (w64 (48 + (n0.tmod 10)))])).bind fun t25 =>
      some t25))
noncomputable def spec_l2Num_k : Nat → Int → Option (List UInt8)
  | 0 => fun _ => none
  | k + 1 => spec_l2Num_b (spec_l2Num_k k)
noncomputable def spec_l2Num : Int → Option (List UInt8) := spec_l2Num_k 20
def a_spec_l2Num : List (Nat × LoopAnn) := []
theorem e_spec_l2Num : (fun self : Int → Option (List UInt8) => fnDen ⟨tis, (23, ⟨[.val false (.one (.int .i64)) false], [.val false (.one .str) (some true)], fun a => self a⟩) :: fns_22, [], false⟩ a_spec_l2Num Tryd.f23 (codeOf Tryd.f23) [.val false (.one (.int .i64)) false] [.val false (.one .str) (some true)]) = fun self a => spec_l2Num_b self a := by kernel_rfl
theorem mk_spec_l2Num : ∀ k, Meets Tryd.prog 23 ⟨[.val false (.one (.int .i64)) false], [.val false (.one .str) (some true)], fun a => spec_l2Num_k k a⟩
  | 0 => ⟨⟨Tryd.f23, codeOf Tryd.f23, Tryd.func23, by kernel_rfl, by kernel_rfl⟩, by intro _ _ _ _ _ _ _ _ _ _ _ _ _ _ _ _ h; cases h⟩
  | k + 1 => by
    have h := meets_of (ann := a_spec_l2Num) (ps := [.val false (.one (.int .i64)) false]) (rs := [.val false (.one .str) (some true)]) (g_22.cons (mk_spec_l2Num k)) mixed Tryd.func23 (by kernel_rfl) (by kernel_rfl : Tryd.f23.body = some (codeOf Tryd.f23))
    rw [congrFun e_spec_l2Num (spec_l2Num_k k)] at h
    exact h
noncomputable def F_spec_l2Num : Fn := ⟨[.val false (.one (.int .i64)) false], [.val false (.one .str) (some true)], fun a => spec_l2Num a⟩
theorem m_spec_l2Num : Meets Tryd.prog 23 F_spec_l2Num := mk_spec_l2Num 20
noncomputable def fns_23 : List (FuncId × Fn) := (23, F_spec_l2Num) :: fns_22
theorem g_23 : Good Tryd.prog ⟨tis, fns_23, [], false⟩ := g_22.cons m_spec_l2Num
noncomputable def spec_OidText_l0 (o0 : List Int) (s3 : List UInt8) (i4 : Int) : Option ((List UInt8 × Int) ⊕ (List UInt8)) :=
  cond (decide (i4 < (o0.length : Int)))
    (cond (decide (i4 > 0))
      ((cat s3 [46]).bind fun t18 =>
      (at? o0 i4).bind fun x22 =>
      (spec_l2Num x22).bind fun t24 =>
      (cat t18 t24).bind fun t25 =>
      some (.inl (t25, w64 (i4 + 1))))
      ((at? o0 i4).bind fun x22_1 =>
      (spec_l2Num x22_1).bind fun t24_1 =>
      (cat s3 t24_1).bind fun t25_1 =>
      some (.inl (t25_1, w64 (i4 + 1)))))
    (some (.inr s3))
noncomputable def spec_OidText (o0 : List Int) : Option (List UInt8) :=
  (spec_OidOk o0).bind fun t6 =>
  cond (!t6)
    (some [])
    ((loop (fun z => spec_OidText_l0 o0 z.1 z.2) ([], 0)).bind fun d =>
    some d)
noncomputable def F_spec_OidText : Fn := ⟨[.val false (.one (.sl (.one (.int .i64)))) false], [.val false (.one .str) (some true)], fun a => spec_OidText a⟩
def a_spec_OidText : List (Nat × LoopAnn) := [(0, ⟨⟨[(3, false, [.dat .str]), (4, false, [.dat (.int .i64)])], []⟩,
    ⟨[(3, false, [.dat .str])], []⟩, none⟩)]
theorem e_spec_OidText : fnDen ⟨tis, fns_23, [], false⟩ a_spec_OidText Tryd.f24 (codeOf Tryd.f24) [.val false (.one (.sl (.one (.int .i64)))) false] [.val false (.one .str) (some true)] = fun a => spec_OidText a := by kernel_rfl
theorem m_spec_OidText : Meets Tryd.prog 24 F_spec_OidText := by
  have h := meets_of (ann := a_spec_OidText) (ps := [.val false (.one (.sl (.one (.int .i64)))) false]) (rs := [.val false (.one .str) (some true)]) g_23 mixed Tryd.func24 (by kernel_rfl) (by kernel_rfl : Tryd.f24.body = some (codeOf Tryd.f24))
  rw [e_spec_OidText] at h
  exact h
noncomputable def fns_24 : List (FuncId × Fn) := (24, F_spec_OidText) :: fns_23
theorem g_24 : Good Tryd.prog ⟨tis, fns_24, [], false⟩ := g_23.cons m_spec_OidText
noncomputable def spec_ValText (v0 : Val) : Option (List UInt8) :=
  (spec_ValOk v0).bind fun t4 =>
  cond (!t4)
    (some [])
    (cond (v0.1 == 2)
      ((spec_l2Num v0.2.1).bind fun t12 =>
      some t12)
      (cond (v0.1 == 4)
        ((cat [39] v0.2.2.1).bind fun t17 =>
        (cat t17 [39]).bind fun t18 =>
        some t18)
        (cond (v0.1 == 6)
          ((spec_OidText v0.2.2.2).bind fun t23 =>
          some t23)
          (cond (v0.1 == 128)
            (some [110, 111, 110, 101])
            (cond (v0.1 == 130) (some [101, 110, 100]) (some [110, 117, 108, 108]))))))
noncomputable def F_spec_ValText : Fn := ⟨[.val true cVal false], [.val false (.one .str) (some true)], fun a => spec_ValText a⟩
def a_spec_ValText : List (Nat × LoopAnn) := []
theorem e_spec_ValText : fnDen ⟨tis, fns_24, [], false⟩ a_spec_ValText Tryd.f7 (codeOf Tryd.f7) [.val true cVal false] [.val false (.one .str) (some true)] = fun a => spec_ValText a := by kernel_rfl
theorem m_spec_ValText : Meets Tryd.prog 7 F_spec_ValText := by
  have h := meets_of (ann := a_spec_ValText) (ps := [.val true cVal false]) (rs := [.val false (.one .str) (some true)]) g_24 mixed Tryd.func7 (by kernel_rfl) (by kernel_rfl : Tryd.f7.body = some (codeOf Tryd.f7))
  rw [e_spec_ValText] at h
  exact h
noncomputable def fns_7 : List (FuncId × Fn) := (7, F_spec_ValText) :: fns_24
theorem g_7 : Good Tryd.prog ⟨tis, fns_7, [], false⟩ := g_24.cons m_spec_ValText
noncomputable def laws_toIntS_l0 (a0 : List Int) (i4 : Int) (l : List Int) : Option ((Int × List Int) ⊕ (List Int)) :=
  cond (decide (i4 < (a0.length : Int)))
    ((at? a0 i4).bind fun x18 =>
    (ix l.length i4).bind fun j20 =>
    (l[j20]?).bind fun x =>
    some (.inl (w64 (i4 + 1), l.set j20 x18)))
    (some (.inr l))
noncomputable def laws_toIntS (a0 : List Int) : Option (List Int) :=
  (mkLen (a0.length : Int)).bind fun n =>
  (loop (fun z => laws_toIntS_l0 a0 z.1 z.2) (0, List.replicate n (0 : Int))).bind fun d =>
  some d
noncomputable def F_laws_toIntS : Fn := ⟨[.val false (.one (.sl (.one (.int .i64)))) false], [.val false (.one (.sl (.one (.int .i64)))) (some true)], fun a => laws_toIntS a⟩
def a_laws_toIntS : List (Nat × LoopAnn) := [(0, ⟨⟨[(4, false, [.dat (.int .i64)])], [(265216, .keep (.one (.int .i64)) true)]⟩,
    ⟨[], [(265216, .keep (.one (.int .i64)) true)]⟩, none⟩)]
theorem e_laws_toIntS : fnDen ⟨tis, fns_7, [], false⟩ a_laws_toIntS Tryd.f25 (codeOf Tryd.f25) [.val false (.one (.sl (.one (.int .i64)))) false] [.val false (.one (.sl (.one (.int .i64)))) (some true)] = fun a => laws_toIntS a := by kernel_rfl
theorem m_laws_toIntS : Meets Tryd.prog 25 F_laws_toIntS := by
  have h := meets_of (ann := a_laws_toIntS) (ps := [.val false (.one (.sl (.one (.int .i64)))) false]) (rs := [.val false (.one (.sl (.one (.int .i64)))) (some true)]) g_7 mixed Tryd.func25 (by kernel_rfl) (by kernel_rfl : Tryd.f25.body = some (codeOf Tryd.f25))
  rw [e_laws_toIntS] at h
  exact h
noncomputable def fns_25 : List (FuncId × Fn) := (25, F_laws_toIntS) :: fns_7
theorem g_25 : Good Tryd.prog ⟨tis, fns_25, [], false⟩ := g_7.cons m_laws_toIntS
noncomputable def laws_toVal (a0 : Val) : Option Val :=
  (laws_toIntS a0.2.2.2).bind fun t15 =>
  some (a0.1, a0.2.1, a0.2.2.1, t15)
noncomputable def F_laws_toVal : Fn := ⟨[.val true cVal false], [.val true cVal (some true)], fun a => laws_toVal a⟩
def a_laws_toVal : List (Nat × LoopAnn) := []
theorem e_laws_toVal : fnDen ⟨tis, fns_25, [], false⟩ a_laws_toVal Tryd.f8 (codeOf Tryd.f8) [.val true cVal false] [.val true cVal (some true)] = fun a => laws_toVal a := by kernel_rfl
theorem m_laws_toVal : Meets Tryd.prog 8 F_laws_toVal := by
  have h := meets_of (ann := a_laws_toVal) (ps := [.val true cVal false]) (rs := [.val true cVal (some true)]) g_25 mixed Tryd.func8 (by kernel_rfl) (by kernel_rfl : Tryd.f8.body = some (codeOf Tryd.f8))
  rw [e_laws_toVal] at h
  exact h
noncomputable def fns_8 : List (FuncId × Fn) := (8, F_laws_toVal) :: fns_25
theorem g_8 : Good Tryd.prog ⟨tis, fns_8, [], false⟩ := g_25.cons m_laws_toVal
noncomputable def impl_in (n0 : Int) (low1 : Int) (high2 : Int) : Option Bool :=
  (cond (decide (n0 ≥ low1)) (some (decide (n0 ≤ high2))) (some false)).bind fun t14 =>
  some t14
noncomputable def F_impl_in : Fn := ⟨[.val false (.one (.int .i64)) false, .val false (.one (.int .i64)) false, .val false (.one (.int .i64)) false], [.val false (.one .bool) (some true)], fun a => impl_in a.1 a.2.1 a.2.2⟩
def a_impl_in : List (Nat × LoopAnn) := []
theorem e_impl_in : fnDen ⟨tis, fns_8, [], false⟩ a_impl_in Tryd.f45 (codeOf Tryd.f45) [.val false (.one (.int .i64)) false, .val false (.one (.int .i64)) false, .val false (.one (.int .i64)) false] [.val false (.one .bool) (some true)] = fun a => impl_in a.1 a.2.1 a.2.2 := by kernel_rfl
theorem m_impl_in : Meets Tryd.prog 45 F_impl_in := by
  have h := meets_of (ann := a_impl_in) (ps := [.val false (.one (.int .i64)) false, .val false (.one (.int .i64)) false, .val false (.one (.int .i64)) false]) (rs := [.val false (.one .bool) (some true)]) g_8 mixed Tryd.func45 (by kernel_rfl) (by kernel_rfl : Tryd.f45.body = some (codeOf Tryd.f45))
  rw [e_impl_in] at h
  exact h
noncomputable def fns_45 : List (FuncId × Fn) := (45, F_impl_in) :: fns_8
theorem g_45 : Good Tryd.prog ⟨tis, fns_45, [], false⟩ := g_8.cons m_impl_in
noncomputable def impl_isInt (n0 : Int) : Option Bool :=
  (impl_in n0 (-2147483648) 2147483647).bind fun t4 =>
  some t4
noncomputable def F_impl_isInt : Fn := ⟨[.val false (.one (.int .i64)) false], [.val false (.one .bool) (some true)], fun a => impl_isInt a⟩
def a_impl_isInt : List (Nat × LoopAnn) := []
theorem e_impl_isInt : fnDen ⟨tis, fns_45, [], false⟩ a_impl_isInt Tryd.f38 (codeOf Tryd.f38) [.val false (.one (.int .i64)) false] [.val false (.one .bool) (some true)] = fun a => impl_isInt a := by kernel_rfl
theorem m_impl_isInt : Meets Tryd.prog 38 F_impl_isInt := by
  have h := meets_of (ann := a_impl_isInt) (ps := [.val false (.one (.int .i64)) false]) (rs := [.val false (.one .bool) (some true)]) g_45 mixed Tryd.func38 (by kernel_rfl) (by kernel_rfl : Tryd.f38.body = some (codeOf Tryd.f38))
  rw [e_impl_isInt] at h
  exact h
noncomputable def fns_38 : List (FuncId × Fn) := (38, F_impl_isInt) :: fns_45
theorem g_38 : Good Tryd.prog ⟨tis, fns_38, [], false⟩ := g_45.cons m_impl_isInt
noncomputable def impl_OidOk_l0 (o0 : List Int) (t7 : Int) : Option (Int ⊕ (Unit ⊕ Bool)) :=
  cond (decide (t7 < (o0.length : Int)))
    ((at? o0 t7).bind fun x9 =>
    (impl_in x9 0 100000).bind fun t12 =>
    cond (!t12) (some (.inr (.inr false))) (some (.inl (w64 (t7 + 1)))))
    (some (.inr (.inl ())))
noncomputable def impl_OidOk (o0 : List Int) : Option Bool :=
  (loop (fun z => impl_OidOk_l0 o0 z) 0).bind (Sum.elim (fun d =>
    (impl_in (o0.length : Int) 1 10).bind fun t17 =>
    some t17) (fun r => some r))
noncomputable def F_impl_OidOk : Fn := ⟨[.val false (.one (.sl (.one (.int .i64)))) false], [.val false (.one .bool) (some true)], fun a => impl_OidOk a⟩
def a_impl_OidOk : List (Nat × LoopAnn) := [(0, ⟨⟨[(7, false, [.dat (.int .i64)])], []⟩,
    ⟨[], []⟩, some ⟨[(2, false, [.dat .bool])], []⟩⟩)]
theorem e_impl_OidOk : fnDen ⟨tis, fns_38, [], false⟩ a_impl_OidOk Tryd.f39 (codeOf Tryd.f39) [.val false (.one (.sl (.one (.int .i64)))) false] [.val false (.one .bool) (some true)] = fun a => impl_OidOk a := by kernel_rfl
theorem m_impl_OidOk : Meets Tryd.prog 39 F_impl_OidOk := by
  have h := meets_of (ann := a_impl_OidOk) (ps := [.val false (.one (.sl (.one (.int .i64)))) false]) (rs := [.val false (.one .bool) (some true)]) g_38 mixed Tryd.func39 (by kernel_rfl) (by kernel_rfl : Tryd.f39.body = some (codeOf Tryd.f39))
  rw [e_impl_OidOk] at h
  exact h
noncomputable def fns_39 : List (FuncId × Fn) := (39, F_impl_OidOk) :: fns_38
theorem g_39 : Good Tryd.prog ⟨tis, fns_39, [], false⟩ := g_38.cons m_impl_OidOk
noncomputable def impl_SameOid_l0 (a0 : List Int) (b1 : List Int) (t13 : Int) : Option (Int ⊕ (Unit ⊕ Bool)) :=
  cond (decide (t13 < (a0.length : Int)))
    ((at? a0 t13).bind fun x18 =>
    (at? b1 t13).bind fun x22 =>
    cond (x18 != x22) (some (.inr (.inr false))) (some (.inl (w64 (t13 + 1)))))
    (some (.inr (.inl ())))
noncomputable def impl_SameOid (a0 : List Int) (b1 : List Int) : Option Bool :=
  cond ((a0.length : Int) != (b1.length : Int))
    (some false)
    ((loop (fun z => impl_SameOid_l0 a0 b1 z) 0).bind (Sum.elim (fun d =>
      some true) (fun r => some r)))
noncomputable def F_impl_SameOid : Fn := ⟨[.val false (.one (.sl (.one (.int .i64)))) false, .val false (.one (.sl (.one (.int .i64)))) false], [.val false (.one .bool) (some true)], fun a => impl_SameOid a.1 a.2⟩
def a_impl_SameOid : List (Nat × LoopAnn) := [(0, ⟨⟨[(13, false, [.dat (.int .i64)])], []⟩,
    ⟨[], []⟩, some ⟨[(4, false, [.dat .bool])], []⟩⟩)]
theorem e_impl_SameOid : fnDen ⟨tis, fns_39, [], false⟩ a_impl_SameOid Tryd.f46 (codeOf Tryd.f46) [.val false (.one (.sl (.one (.int .i64)))) false, .val false (.one (.sl (.one (.int .i64)))) false] [.val false (.one .bool) (some true)] = fun a => impl_SameOid a.1 a.2 := by kernel_rfl
theorem m_impl_SameOid : Meets Tryd.prog 46 F_impl_SameOid := by
  have h := meets_of (ann := a_impl_SameOid) (ps := [.val false (.one (.sl (.one (.int .i64)))) false, .val false (.one (.sl (.one (.int .i64)))) false]) (rs := [.val false (.one .bool) (some true)]) g_39 mixed Tryd.func46 (by kernel_rfl) (by kernel_rfl : Tryd.f46.body = some (codeOf Tryd.f46))
  rw [e_impl_SameOid] at h
  exact h
noncomputable def fns_46 : List (FuncId × Fn) := (46, F_impl_SameOid) :: fns_39
theorem g_46 : Good Tryd.prog ⟨tis, fns_46, [], false⟩ := g_39.cons m_impl_SameOid
noncomputable def impl_SameVal (a0 : Val) (b1 : Val) : Option Bool :=
  (cond (a0.1 == b1.1) (some (a0.2.1 == b1.2.1)) (some false)).bind fun t16 =>
  (cond t16 (some (a0.2.2.1 == b1.2.2.1)) (some false)).bind fun t23 =>
  (cond t23
    ((impl_SameOid a0.2.2.2 b1.2.2.2).bind fun t29 =>
    some t29)
    (some false)).bind fun t30 =>
  some t30
noncomputable def F_impl_SameVal : Fn := ⟨[.val true cVal false, .val true cVal false], [.val false (.one .bool) (some true)], fun a => impl_SameVal a.1 a.2⟩
def a_impl_SameVal : List (Nat × LoopAnn) := []
theorem e_impl_SameVal : fnDen ⟨tis, fns_46, [], false⟩ a_impl_SameVal Tryd.f40 (codeOf Tryd.f40) [.val true cVal false, .val true cVal false] [.val false (.one .bool) (some true)] = fun a => impl_SameVal a.1 a.2 := by kernel_rfl
theorem m_impl_SameVal : Meets Tryd.prog 40 F_impl_SameVal := by
  have h := meets_of (ann := a_impl_SameVal) (ps := [.val true cVal false, .val true cVal false]) (rs := [.val false (.one .bool) (some true)]) g_46 mixed Tryd.func40 (by kernel_rfl) (by kernel_rfl : Tryd.f40.body = some (codeOf Tryd.f40))
  rw [e_impl_SameVal] at h
  exact h
noncomputable def fns_40 : List (FuncId × Fn) := (40, F_impl_SameVal) :: fns_46
theorem g_40 : Good Tryd.prog ⟨tis, fns_40, [], false⟩ := g_46.cons m_impl_SameVal
noncomputable def impl_ValOk (v0 : Val) : Option Bool :=
  cond (v0.1 == 2)
    ((impl_isInt v0.2.1).bind fun t17 =>
    (cond t17
      ((impl_SameVal v0 (v0.1, v0.2.1, [], [])).bind fun t43 =>
      some t43)
      (some false)).bind fun t44 =>
    some t44)
    (cond (v0.1 == 4)
      (let ok4 := decide ((v0.2.2.1.length : Int) ≤ 20)
      (cond ok4
        ((impl_SameVal v0 (v0.1, 0, v0.2.2.1, [])).bind fun t43_1 =>
        some t43_1)
        (some false)).bind fun t44_1 =>
      some t44_1)
      (cond (v0.1 == 6)
        ((impl_OidOk v0.2.2.2).bind fun t34 =>
        (cond t34
          ((impl_SameVal v0 (v0.1, 0, [], v0.2.2.2)).bind fun t43_2 =>
          some t43_2)
          (some false)).bind fun t44_2 =>
        some t44_2)
        (cond (v0.1 == 5)
          (cond (v0.1 == 5)
            (((impl_SameVal v0 (v0.1, 0, [], [])).bind fun t43_3 =>
            some t43_3).bind fun t44_3 =>
            some t44_3)
            (some false))
          (cond (v0.1 == 128)
            (cond (v0.1 == 128)
              (((impl_SameVal v0 (v0.1, 0, [], [])).bind fun t43_4 =>
              some t43_4).bind fun t44_4 =>
              some t44_4)
              (some false))
            (cond (v0.1 == 130)
              (((impl_SameVal v0 (v0.1, 0, [], [])).bind fun t43_5 =>
              some t43_5).bind fun t44_5 =>
              some t44_5)
              (some false))))))
noncomputable def F_impl_ValOk : Fn := ⟨[.val true cVal false], [.val false (.one .bool) (some true)], fun a => impl_ValOk a⟩
def a_impl_ValOk : List (Nat × LoopAnn) := []
theorem e_impl_ValOk : fnDen ⟨tis, fns_40, [], false⟩ a_impl_ValOk Tryd.f26 (codeOf Tryd.f26) [.val true cVal false] [.val false (.one .bool) (some true)] = fun a => impl_ValOk a := by kernel_rfl
theorem m_impl_ValOk : Meets Tryd.prog 26 F_impl_ValOk := by
  have h := meets_of (ann := a_impl_ValOk) (ps := [.val true cVal false]) (rs := [.val false (.one .bool) (some true)]) g_40 mixed Tryd.func26 (by kernel_rfl) (by kernel_rfl : Tryd.f26.body = some (codeOf Tryd.f26))
  rw [e_impl_ValOk] at h
  exact h
noncomputable def fns_26 : List (FuncId × Fn) := (26, F_impl_ValOk) :: fns_40
theorem g_26 : Good Tryd.prog ⟨tis, fns_26, [], false⟩ := g_40.cons m_impl_ValOk
noncomputable def impl_OidText_l0 (o0 : List Int) (t11 : Int) (out3 : List (List UInt8)) : Option ((Int × List (List UInt8)) ⊕ (List (List UInt8))) :=
  cond (decide (t11 < (o0.length : Int)))
    ((at? o0 t11).bind fun x13 =>
    (libItoa x13).bind fun t17 =>
    (app out3 [t17]).bind fun zs19 =>
    some (.inl (w64 (t11 + 1), zs19)))
    (some (.inr out3))
noncomputable def impl_OidText (o0 : List Int) : Option (List UInt8) :=
  (impl_OidOk o0).bind fun t7 =>
  cond (!t7)
    (some [])
    ((loop (fun z => impl_OidText_l0 o0 z.1 z.2) (0, [])).bind fun d =>
    (libJoin d [46]).bind fun t22 =>
    some t22)
noncomputable def F_impl_OidText : Fn := ⟨[.val false (.one (.sl (.one (.int .i64)))) false], [.val false (.one .str) (some true)], fun a => impl_OidText a⟩
def a_impl_OidText : List (Nat × LoopAnn) := [(0, ⟨⟨[(3, false, [.own 1000000000]), (11, false, [.dat (.int .i64)])], [(1000000000, .root (.one .str) true)]⟩,
    ⟨[(3, false, [.own 1000000300])], [(1000000300, .root (.one .str) true)]⟩, none⟩)]
theorem e_impl_OidText : fnDen ⟨tis, fns_26, [], false⟩ a_impl_OidText Tryd.f28 (codeOf Tryd.f28) [.val false (.one (.sl (.one (.int .i64)))) false] [.val false (.one .str) (some true)] = fun a => impl_OidText a := by kernel_rfl
theorem m_impl_OidText : Meets Tryd.prog 28 F_impl_OidText := by
  have h := meets_of (ann := a_impl_OidText) (ps := [.val false (.one (.sl (.one (.int .i64)))) false]) (rs := [.val false (.one .str) (some true)]) g_26 mixed Tryd.func28 (by kernel_rfl) (by kernel_rfl : Tryd.f28.body = some (codeOf Tryd.f28))
  rw [e_impl_OidText] at h
  exact h
noncomputable def fns_28 : List (FuncId × Fn) := (28, F_impl_OidText) :: fns_26
theorem g_28 : Good Tryd.prog ⟨tis, fns_28, [], false⟩ := g_26.cons m_impl_OidText
noncomputable def impl_ValText (v0 : Val) : Option (List UInt8) :=
  (impl_ValOk v0).bind fun t4 =>
  cond (!t4)
    (some [])
    (cond (v0.1 == 5)
      (some [110, 117, 108, 108])
      (cond (v0.1 == 2)
        ((libItoa v0.2.1).bind fun t14 =>
        some t14)
        (cond (v0.1 == 4)
          ((cat [39] v0.2.2.1).bind fun t19 =>
          (cat t19 [39]).bind fun t20 =>
          some t20)
          (cond (v0.1 == 6)
            ((impl_OidText v0.2.2.2).bind fun t25 =>
            some t25)
            (cond (v0.1 == 128) (some [110, 111, 110, 101]) (some [101, 110, 100]))))))
noncomputable def F_impl_ValText : Fn := ⟨[.val true cVal false], [.val false (.one .str) (some true)], fun a => impl_ValText a⟩
def a_impl_ValText : List (Nat × LoopAnn) := []
theorem e_impl_ValText : fnDen ⟨tis, fns_28, [], false⟩ a_impl_ValText Tryd.f9 (codeOf Tryd.f9) [.val true cVal false] [.val false (.one .str) (some true)] = fun a => impl_ValText a := by kernel_rfl
theorem m_impl_ValText : Meets Tryd.prog 9 F_impl_ValText := by
  have h := meets_of (ann := a_impl_ValText) (ps := [.val true cVal false]) (rs := [.val false (.one .str) (some true)]) g_28 mixed Tryd.func9 (by kernel_rfl) (by kernel_rfl : Tryd.f9.body = some (codeOf Tryd.f9))
  rw [e_impl_ValText] at h
  exact h
noncomputable def fns_9 : List (FuncId × Fn) := (9, F_impl_ValText) :: fns_28
theorem g_9 : Good Tryd.prog ⟨tis, fns_9, [], false⟩ := g_28.cons m_impl_ValText
noncomputable def laws_eqIntS_l0 (a0 : List Int) (b1 : List Int) (i5 : Int) : Option (Int ⊕ (Unit ⊕ Bool)) :=
  cond (decide (i5 < (a0.length : Int)))
    ((at? a0 i5).bind fun x19 =>
    (at? b1 i5).bind fun x23 =>
    cond (x19 != x23) (some (.inr (.inr false))) (some (.inl (w64 (i5 + 1)))))
    (some (.inr (.inl ())))
noncomputable def laws_eqIntS (a0 : List Int) (b1 : List Int) : Option Bool :=
  cond ((a0.length : Int) != (b1.length : Int))
    (some false)
    ((loop (fun z => laws_eqIntS_l0 a0 b1 z) 0).bind (Sum.elim (fun d =>
      some true) (fun r => some r)))
noncomputable def F_laws_eqIntS : Fn := ⟨[.val false (.one (.sl (.one (.int .i64)))) false, .val false (.one (.sl (.one (.int .i64)))) false], [.val false (.one .bool) (some true)], fun a => laws_eqIntS a.1 a.2⟩
def a_laws_eqIntS : List (Nat × LoopAnn) := [(0, ⟨⟨[(5, false, [.dat (.int .i64)])], []⟩,
    ⟨[], []⟩, some ⟨[(4, false, [.dat .bool])], []⟩⟩)]
theorem e_laws_eqIntS : fnDen ⟨tis, fns_9, [], false⟩ a_laws_eqIntS Tryd.f29 (codeOf Tryd.f29) [.val false (.one (.sl (.one (.int .i64)))) false, .val false (.one (.sl (.one (.int .i64)))) false] [.val false (.one .bool) (some true)] = fun a => laws_eqIntS a.1 a.2 := by kernel_rfl
theorem m_laws_eqIntS : Meets Tryd.prog 29 F_laws_eqIntS := by
  have h := meets_of (ann := a_laws_eqIntS) (ps := [.val false (.one (.sl (.one (.int .i64)))) false, .val false (.one (.sl (.one (.int .i64)))) false]) (rs := [.val false (.one .bool) (some true)]) g_9 mixed Tryd.func29 (by kernel_rfl) (by kernel_rfl : Tryd.f29.body = some (codeOf Tryd.f29))
  rw [e_laws_eqIntS] at h
  exact h
noncomputable def fns_29 : List (FuncId × Fn) := (29, F_laws_eqIntS) :: fns_9
theorem g_29 : Good Tryd.prog ⟨tis, fns_29, [], false⟩ := g_9.cons m_laws_eqIntS
noncomputable def laws_eqVal (a0 : Val) (b1 : Val) : Option Bool :=
  cond (a0.1 != b1.1)
    (some false)
    (cond (a0.2.1 != b1.2.1)
      (some false)
      (cond (!(a0.2.2.1 == b1.2.2.1))
        (some false)
        ((laws_eqIntS a0.2.2.2 b1.2.2.2).bind fun t24 =>
        cond (!t24) (some false) (some true))))
noncomputable def F_laws_eqVal : Fn := ⟨[.val true cVal false, .val true cVal false], [.val false (.one .bool) (some true)], fun a => laws_eqVal a.1 a.2⟩
def a_laws_eqVal : List (Nat × LoopAnn) := []
theorem e_laws_eqVal : fnDen ⟨tis, fns_29, [], false⟩ a_laws_eqVal Tryd.f10 (codeOf Tryd.f10) [.val true cVal false, .val true cVal false] [.val false (.one .bool) (some true)] = fun a => laws_eqVal a.1 a.2 := by kernel_rfl
theorem m_laws_eqVal : Meets Tryd.prog 10 F_laws_eqVal := by
  have h := meets_of (ann := a_laws_eqVal) (ps := [.val true cVal false, .val true cVal false]) (rs := [.val false (.one .bool) (some true)]) g_29 mixed Tryd.func10 (by kernel_rfl) (by kernel_rfl : Tryd.f10.body = some (codeOf Tryd.f10))
  rw [e_laws_eqVal] at h
  exact h
noncomputable def fns_10 : List (FuncId × Fn) := (10, F_laws_eqVal) :: fns_29
theorem g_10 : Good Tryd.prog ⟨tis, fns_10, [], false⟩ := g_29.cons m_laws_eqVal
noncomputable def laws_FnExactValText (aV0 : Val) : Option Bool :=
  (laws_szVal aV0 1048576).bind fun t9 =>
  cond (decide (t9 < 0))
    (some true)
    ((laws_toVal aV0).bind fun t13 =>
    (spec_ValText t13).bind fun t14 =>
    (laws_toVal aV0).bind fun t16 =>
    (impl_ValText t16).bind fun t18 =>
    cond (!(t18 == t14))
      (some false)
      ((laws_toVal aV0).bind fun t24 =>
      (laws_eqVal t16 t24).bind fun t25 =>
      cond (!t25) (some false) (some true)))
noncomputable def F_laws_FnExactValText : Fn := ⟨[.val true cVal false], [.val false (.one .bool) (some true)], fun a => laws_FnExactValText a⟩
def a_laws_FnExactValText : List (Nat × LoopAnn) := []
theorem e_laws_FnExactValText : fnDen ⟨tis, fns_10, [], false⟩ a_laws_FnExactValText Tryd.f3 (codeOf Tryd.f3) [.val true cVal false] [.val false (.one .bool) (some true)] = fun a => laws_FnExactValText a := by kernel_rfl
theorem m_laws_FnExactValText : Meets Tryd.prog 3 F_laws_FnExactValText := by
  have h := meets_of (ann := a_laws_FnExactValText) (ps := [.val true cVal false]) (rs := [.val false (.one .bool) (some true)]) g_10 mixed Tryd.func3 (by kernel_rfl) (by kernel_rfl : Tryd.f3.body = some (codeOf Tryd.f3))
  rw [e_laws_FnExactValText] at h
  exact h
end Go.V.W

