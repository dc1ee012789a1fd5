/- The law FnExactPduText: part of the proof that for every input it returns true. No condition. -/
import Derived.Test.YtpfjdhdmkacnbaaDoorLayDoor
import Derived.Test.YtpfjdhdmkacnbaaDoorProg
import Derived.Test.YtpfjdhdmkacnbaaDoorChecked
import Derived.KernelRfl
namespace Go.V.W
open Go.Proofs
set_option linter.unusedVariables false
@[reducible] def cVal : Cs := .cons (.int .i64) (.cons (.int .i64) (.cons .str (.one (.sl (.one (.int .i64))))))
@[reducible] def cBind : Cs := .cons (.sl (.one (.int .i64))) (.cons (.int .i64) (.cons (.int .i64) (.cons .str (.one (.sl (.one (.int .i64)))))))
@[reducible] def cPdu : Cs := .cons (.int .i64) (.cons (.int .i64) (.cons (.int .i64) (.cons (.int .i64) (.one (.sl cBind)))))
abbrev Val : Type := Int × Int × List UInt8 × List Int
abbrev Bind : Type := List Int × Int × Int × List UInt8 × List Int
abbrev Pdu : Type := Int × Int × Int × Int × List Bind
def tis : List (Nat × TInfo) := [(2, ⟨false, .one (.int .i64), [], 0⟩),
  (3, ⟨false, .one (.int .i64), [], 0⟩),
  (4, ⟨false, .one .bool, [], 0⟩),
  (5, ⟨false, .one (.int .u8), [], 0⟩),
  (6, ⟨false, .one (.int .u8), [], 0⟩),
  (9, ⟨false, .one .str, [], 0⟩),
  (10, ⟨false, .one .str, [], 0⟩),
  (11, ⟨false, .one .str, [], 0⟩),
  (12, ⟨false, .one (.int .u64), [], 0⟩),
  (21, ⟨false, .one (.int .i32), [], 0⟩),
  (22, ⟨false, .one (.sl (.one (.int .i64))), [], 3⟩),
  (23, ⟨true, cVal, [(3, 0), (3, 1), (9, 2), (22, 3)], 0⟩),
  (24, ⟨true, cVal, [(3, 0), (3, 1), (9, 2), (22, 3)], 0⟩),
  (27, ⟨true, cVal, [(3, 0), (3, 1), (9, 2), (22, 3)], 0⟩),
  (31, ⟨true, cBind, [(22, 0), (24, 1)], 0⟩),
  (32, ⟨true, cBind, [(22, 0), (24, 1)], 0⟩),
  (35, ⟨true, cBind, [(22, 0), (27, 1)], 0⟩),
  (36, ⟨true, cBind, [(22, 0), (27, 1)], 0⟩),
  (40, ⟨false, .one (.sl cBind), [], 32⟩),
  (41, ⟨true, cPdu, [(3, 0), (3, 1), (3, 2), (3, 3), (40, 4)], 0⟩),
  (42, ⟨true, cPdu, [(3, 0), (3, 1), (3, 2), (3, 3), (40, 4)], 0⟩),
  (45, ⟨false, .one (.sl cBind), [], 36⟩),
  (46, ⟨true, cPdu, [(3, 0), (3, 1), (3, 2), (3, 3), (45, 4)], 0⟩),
  (47, ⟨true, cPdu, [(3, 0), (3, 1), (3, 2), (3, 3), (45, 4)], 0⟩),
  (63, ⟨false, .one (.sl (.one (.int .u8))), [], 5⟩),
  (65, ⟨false, .one (.sl (.one .str)), [], 9⟩),
  (74, ⟨false, .one .err, [], 0⟩),
  (79, ⟨false, .one (.int .u64), [], 0⟩),
  (87, ⟨false, .one (.int .u32), [], 0⟩),
  (89, ⟨false, .one (.int .u64), [], 0⟩),
  (103, ⟨false, .one (.int .u8), [], 0⟩),
  (104, ⟨false, .one (.int .u8), [], 0⟩),
  (106, ⟨false, .one (.int .i32), [], 0⟩),
  (107, ⟨false, .one (.int .i32), [], 0⟩)]
theorem tisT : Tis Tryd.prog tis := Tis.of_all (by kernel_rfl)
theorem tisE : Eqs Tryd.prog tis := Eqs.of_all (by kernel_rfl)
theorem tisD : Deep Tryd.prog tis := Deep.of_all (by kernel_rfl)
theorem mixed : Tryd.prog.follows .mixedOrders = true := by kernel_rfl
def codeOf (fn : Func) : Code := match fn.body with | some c => c | none => .skip
theorem g_0 : Good Tryd.prog ⟨tis, [], [], false⟩ := ⟨tisT, tisE, (fun f F h => by cases h), (fun f M h => by cases h), (fun h => by cases h)⟩
noncomputable def F_libItoa : Fn := libItoaF
theorem m_libItoa : Meets Tryd.prog 27 F_libItoa := meets_itoa ⟨Tryd.f27, codeOf Tryd.f27, Tryd.func27, by kernel_rfl, by kernel_rfl⟩ lay_Itoa
noncomputable def fns_27 : List (FuncId × Fn) := (27, F_libItoa) :: []
theorem g_27 : Good Tryd.prog ⟨tis, fns_27, [], false⟩ := g_0.cons m_libItoa
noncomputable def F_libJoin : Fn := libJoinF
theorem m_libJoin : Meets Tryd.prog 42 F_libJoin := meets_join ⟨Tryd.f42, codeOf Tryd.f42, Tryd.func42, by kernel_rfl, by kernel_rfl⟩ lay_Join0 lay_Join
noncomputable def fns_42 : List (FuncId × Fn) := (42, F_libJoin) :: fns_27
theorem g_42 : Good Tryd.prog ⟨tis, fns_42, [], false⟩ := g_27.cons m_libJoin
noncomputable def laws_szIntS (a0 : List Int) (left1 : Int) : Option Int :=
  let left1_1 := w64 (left1 - (a0.length : Int))
  cond (decide (left1_1 < 0)) (some (-1)) (some left1_1)
noncomputable def F_laws_szIntS : Fn := ⟨[.val false (.one (.sl (.one (.int .i64)))) false, .val false (.one (.int .i64)) false], [.val false (.one (.int .i64)) (some true)], fun a => laws_szIntS a.1 a.2⟩
def a_laws_szIntS : List (Nat × LoopAnn) := []
theorem e_laws_szIntS : fnDen ⟨tis, fns_42, [], false⟩ a_laws_szIntS Tryd.f21 (codeOf Tryd.f21) [.val false (.one (.sl (.one (.int .i64)))) false, .val false (.one (.int .i64)) false] [.val false (.one (.int .i64)) (some true)] = fun a => laws_szIntS a.1 a.2 := by kernel_rfl
theorem m_laws_szIntS : Meets Tryd.prog 21 F_laws_szIntS := by
  have h := meets_of (ann := a_laws_szIntS) (ps := [.val false (.one (.sl (.one (.int .i64)))) false, .val false (.one (.int .i64)) false]) (rs := [.val false (.one (.int .i64)) (some true)]) g_42 mixed Tryd.func21 (by kernel_rfl) (by kernel_rfl : Tryd.f21.body = some (codeOf Tryd.f21))
  rw [e_laws_szIntS] at h
  exact h
noncomputable def fns_21 : List (FuncId × Fn) := (21, F_laws_szIntS) :: fns_42
theorem g_21 : Good Tryd.prog ⟨tis, fns_21, [], false⟩ := g_42.cons m_laws_szIntS
noncomputable def laws_szVal (a0 : Val) (left1 : Int) : Option Int :=
  let left1_1 := w64 (left1 - (a0.2.2.1.length : Int))
  cond (decide (left1_1 < 0))
    (some (-1))
    ((laws_szIntS a0.2.2.2 left1_1).bind fun t15 =>
    cond (decide (t15 < 0)) (some (-1)) (some t15))
noncomputable def F_laws_szVal : Fn := ⟨[.val true cVal false, .val false (.one (.int .i64)) false], [.val false (.one (.int .i64)) (some true)], fun a => laws_szVal a.1 a.2⟩
def a_laws_szVal : List (Nat × LoopAnn) := []
theorem e_laws_szVal : fnDen ⟨tis, fns_21, [], false⟩ a_laws_szVal Tryd.f6 (codeOf Tryd.f6) [.val true cVal false, .val false (.one (.int .i64)) false] [.val false (.one (.int .i64)) (some true)] = fun a => laws_szVal a.1 a.2 := by kernel_rfl
theorem m_laws_szVal : Meets Tryd.prog 6 F_laws_szVal := by
  have h := meets_of (ann := a_laws_szVal) (ps := [.val true cVal false, .val false (.one (.int .i64)) false]) (rs := [.val false (.one (.int .i64)) (some true)]) g_21 mixed Tryd.func6 (by kernel_rfl) (by kernel_rfl : Tryd.f6.body = some (codeOf Tryd.f6))
  rw [e_laws_szVal] at h
  exact h
noncomputable def fns_6 : List (FuncId × Fn) := (6, F_laws_szVal) :: fns_21
theorem g_6 : Good Tryd.prog ⟨tis, fns_6, [], false⟩ := g_21.cons m_laws_szVal
noncomputable def laws_szBind (a0 : Bind) (left1 : Int) : Option Int :=
  (laws_szIntS a0.1 left1).bind fun t8 =>
  cond (decide (t8 < 0))
    (some (-1))
    ((laws_szVal a0.2 t8).bind fun t14 =>
    cond (decide (t14 < 0)) (some (-1)) (some t14))
noncomputable def F_laws_szBind : Fn := ⟨[.val true cBind false, .val false (.one (.int .i64)) false], [.val false (.one (.int .i64)) (some true)], fun a => laws_szBind a.1 a.2⟩
def a_laws_szBind : List (Nat × LoopAnn) := []
theorem e_laws_szBind : fnDen ⟨tis, fns_6, [], false⟩ a_laws_szBind Tryd.f11 (codeOf Tryd.f11) [.val true cBind false, .val false (.one (.int .i64)) false] [.val false (.one (.int .i64)) (some true)] = fun a => laws_szBind a.1 a.2 := by kernel_rfl
theorem m_laws_szBind : Meets Tryd.prog 11 F_laws_szBind := by
  have h := meets_of (ann := a_laws_szBind) (ps := [.val true cBind false, .val false (.one (.int .i64)) false]) (rs := [.val false (.one (.int .i64)) (some true)]) g_6 mixed Tryd.func11 (by kernel_rfl) (by kernel_rfl : Tryd.f11.body = some (codeOf Tryd.f11))
  rw [e_laws_szBind] at h
  exact h
noncomputable def fns_11 : List (FuncId × Fn) := (11, F_laws_szBind) :: fns_6
theorem g_11 : Good Tryd.prog ⟨tis, fns_11, [], false⟩ := g_6.cons m_laws_szBind
noncomputable def laws_szBindS_l0 (a0 : List Bind) (left1_2 : Int) (i5 : Int) : Option ((Int × Int) ⊕ (Int ⊕ Int)) :=
  cond (decide (i5 < (a0.length : Int)))
    ((at? a0 i5).bind fun x20 =>
    (laws_szBind x20 left1_2).bind fun t23 =>
    cond (decide (t23 < 0)) (some (.inr (.inr (-1)))) (some (.inl (t23, w64 (i5 + 1)))))
    (some (.inr (.inl left1_2)))
noncomputable def laws_szBindS (a0 : List Bind) (left1 : Int) : Option Int :=
  let left1_1 := w64 (left1 - (a0.length : Int))
  cond (decide (left1_1 < 0))
    (some (-1))
    ((loop (fun z => laws_szBindS_l0 a0 z.1 z.2) (left1_1, 0)).bind (Sum.elim (fun d =>
      some d) (fun r => some r)))
noncomputable def F_laws_szBindS : Fn := ⟨[.val false (.one (.sl cBind)) false, .val false (.one (.int .i64)) false], [.val false (.one (.int .i64)) (some true)], fun a => laws_szBindS a.1 a.2⟩
def a_laws_szBindS : List (Nat × LoopAnn) := [(0, ⟨⟨[(1, false, [.dat (.int .i64)]), (5, false, [.dat (.int .i64)])], []⟩,
    ⟨[(1, false, [.dat (.int .i64)])], []⟩, some ⟨[(4, false, [.dat (.int .i64)])], []⟩⟩)]
theorem e_laws_szBindS : fnDen ⟨tis, fns_11, [], false⟩ a_laws_szBindS Tryd.f30 (codeOf Tryd.f30) [.val false (.one (.sl cBind)) false, .val false (.one (.int .i64)) false] [.val false (.one (.int .i64)) (some true)] = fun a => laws_szBindS a.1 a.2 := by kernel_rfl
theorem m_laws_szBindS : Meets Tryd.prog 30 F_laws_szBindS := by
  have h := meets_of (ann := a_laws_szBindS) (ps := [.val false (.one (.sl cBind)) false, .val false (.one (.int .i64)) false]) (rs := [.val false (.one (.int .i64)) (some true)]) g_11 mixed Tryd.func30 (by kernel_rfl) (by kernel_rfl : Tryd.f30.body = some (codeOf Tryd.f30))
  rw [e_laws_szBindS] at h
  exact h
noncomputable def fns_30 : List (FuncId × Fn) := (30, F_laws_szBindS) :: fns_11
theorem g_30 : Good Tryd.prog ⟨tis, fns_30, [], false⟩ := g_11.cons m_laws_szBindS
noncomputable def laws_szPdu (a0 : Pdu) (left1 : Int) : Option Int :=
  (laws_szBindS a0.2.2.2.2 left1).bind fun t8 =>
  cond (decide (t8 < 0)) (some (-1)) (some t8)
noncomputable def F_laws_szPdu : Fn := ⟨[.val true cPdu false, .val false (.one (.int .i64)) false], [.val false (.one (.int .i64)) (some true)], fun a => laws_szPdu a.1 a.2⟩
def a_laws_szPdu : List (Nat × LoopAnn) := []
theorem e_laws_szPdu : fnDen ⟨tis, fns_30, [], false⟩ a_laws_szPdu Tryd.f16 (codeOf Tryd.f16) [.val true cPdu false, .val false (.one (.int .i64)) false] [.val false (.one (.int .i64)) (some true)] = fun a => laws_szPdu a.1 a.2 := by kernel_rfl
theorem m_laws_szPdu : Meets Tryd.prog 16 F_laws_szPdu := by
  have h := meets_of (ann := a_laws_szPdu) (ps := [.val true cPdu false, .val false (.one (.int .i64)) false]) (rs := [.val false (.one (.int .i64)) (some true)]) g_30 mixed Tryd.func16 (by kernel_rfl) (by kernel_rfl : Tryd.f16.body = some (codeOf Tryd.f16))
  rw [e_laws_szPdu] at h
  exact h
noncomputable def fns_16 : List (FuncId × Fn) := (16, F_laws_szPdu) :: fns_30
theorem g_16 : Good Tryd.prog ⟨tis, fns_16, [], false⟩ := g_30.cons m_laws_szPdu
noncomputable def spec_l1Clip (n0 : Int) : Option Int :=
  cond (decide (n0 > 2147483647))
    (some 2147483647)
    (cond (decide (n0 < (-2147483648))) (some (-2147483648)) (some n0))
noncomputable def F_spec_l1Clip : Fn := ⟨[.val false (.one (.int .i64)) false], [.val false (.one (.int .i64)) (some true)], fun a => spec_l1Clip a⟩
def a_spec_l1Clip : List (Nat × LoopAnn) := []
theorem e_spec_l1Clip : fnDen ⟨tis, fns_16, [], false⟩ a_spec_l1Clip Tryd.f36 (codeOf Tryd.f36) [.val false (.one (.int .i64)) false] [.val false (.one (.int .i64)) (some true)] = fun a => spec_l1Clip a := by kernel_rfl
theorem m_spec_l1Clip : Meets Tryd.prog 36 F_spec_l1Clip := by
  have h := meets_of (ann := a_spec_l1Clip) (ps := [.val false (.one (.int .i64)) false]) (rs := [.val false (.one (.int .i64)) (some true)]) g_16 mixed Tryd.func36 (by kernel_rfl) (by kernel_rfl : Tryd.f36.body = some (codeOf Tryd.f36))
  rw [e_spec_l1Clip] at h
  exact h
noncomputable def fns_36 : List (FuncId × Fn) := (36, F_spec_l1Clip) :: fns_16
theorem g_36 : Good Tryd.prog ⟨tis, fns_36, [], false⟩ := g_16.cons m_spec_l1Clip
noncomputable def spec_l1In (x0 : Int) (least1 : Int) (most2 : Int) : Option Bool :=
  (cond (decide (x0 ≥ least1)) (some (decide (x0 ≤ most2))) (some false)).bind fun t14 =>
  some t14
noncomputable def F_spec_l1In : Fn := ⟨[.val false (.one (.int .i64)) false, .val false (.one (.int .i64)) false, .val false (.one (.int .i64)) false], [.val false (.one .bool) (some true)], fun a => spec_l1In a.1 a.2.1 a.2.2⟩
def a_spec_l1In : List (Nat × LoopAnn) := []
theorem e_spec_l1In : fnDen ⟨tis, fns_36, [], false⟩ a_spec_l1In Tryd.f44 (codeOf Tryd.f44) [.val false (.one (.int .i64)) false, .val false (.one (.int .i64)) false, .val false (.one (.int .i64)) false] [.val false (.one .bool) (some true)] = fun a => spec_l1In a.1 a.2.1 a.2.2 := by kernel_rfl
theorem m_spec_l1In : Meets Tryd.prog 44 F_spec_l1In := by
  have h := meets_of (ann := a_spec_l1In) (ps := [.val false (.one (.int .i64)) false, .val false (.one (.int .i64)) false, .val false (.one (.int .i64)) false]) (rs := [.val false (.one .bool) (some true)]) g_36 mixed Tryd.func44 (by kernel_rfl) (by kernel_rfl : Tryd.f44.body = some (codeOf Tryd.f44))
  rw [e_spec_l1In] at h
  exact h
noncomputable def fns_44 : List (FuncId × Fn) := (44, F_spec_l1In) :: fns_36
theorem g_44 : Good Tryd.prog ⟨tis, fns_44, [], false⟩ := g_36.cons m_spec_l1In
noncomputable def spec_OidOk_l0 (o0 : List Int) (i3 : Int) : Option (Int ⊕ (Unit ⊕ Bool)) :=
  cond (decide (i3 < (o0.length : Int)))
    ((at? o0 i3).bind fun x12 =>
    (spec_l1In x12 0 100000).bind fun t14 =>
    cond (!t14) (some (.inr (.inr false))) (some (.inl (w64 (i3 + 1)))))
    (some (.inr (.inl ())))
noncomputable def spec_OidOk (o0 : List Int) : Option Bool :=
  (loop (fun z => spec_OidOk_l0 o0 z) 0).bind (Sum.elim (fun d =>
    (spec_l1In (o0.length : Int) 1 10).bind fun t18 =>
    some t18) (fun r => some r))
noncomputable def F_spec_OidOk : Fn := ⟨[.val false (.one (.sl (.one (.int .i64)))) false], [.val false (.one .bool) (some true)], fun a => spec_OidOk a⟩
def a_spec_OidOk : List (Nat × LoopAnn) := [(0, ⟨⟨[(3, false, [.dat (.int .i64)])], []⟩,
    ⟨[], []⟩, some ⟨[(2, false, [.dat .bool])], []⟩⟩)]
theorem e_spec_OidOk : fnDen ⟨tis, fns_44, [], false⟩ a_spec_OidOk Tryd.f37 (codeOf Tryd.f37) [.val false (.one (.sl (.one (.int .i64)))) false] [.val false (.one .bool) (some true)] = fun a => spec_OidOk a := by kernel_rfl
theorem m_spec_OidOk : Meets Tryd.prog 37 F_spec_OidOk := by
  have h := meets_of (ann := a_spec_OidOk) (ps := [.val false (.one (.sl (.one (.int .i64)))) false]) (rs := [.val false (.one .bool) (some true)]) g_44 mixed Tryd.func37 (by kernel_rfl) (by kernel_rfl : Tryd.f37.body = some (codeOf Tryd.f37))
  rw [e_spec_OidOk] at h
  exact h
noncomputable def fns_37 : List (FuncId × Fn) := (37, F_spec_OidOk) :: fns_44
theorem g_37 : Good Tryd.prog ⟨tis, fns_37, [], false⟩ := g_44.cons m_spec_OidOk
noncomputable def spec_ValOk (p0 : Val) : Option Bool :=
  cond (p0.1 == 5)
    (cond (p0.1 == 5)
      ((cond (p0.2.1 == 0) (some (p0.2.2.1 == [])) (some false)).bind fun t16 =>
      (cond t16 (some ((p0.2.2.2.length : Int) == 0)) (some false)).bind fun t22 =>
      some t22)
      (cond (p0.1 == 2)
        ((spec_l1Clip p0.2.1).bind fun t27 =>
        (cond (t27 == p0.2.1) (some (p0.2.2.1 == [])) (some false)).bind fun t35 =>
        (cond t35 (some ((p0.2.2.2.length : Int) == 0)) (some false)).bind fun t41 =>
        some t41)
        (cond (p0.1 == 4)
          ((cond (decide ((p0.2.2.1.length : Int) ≤ 20)) (some (p0.2.1 == 0)) (some false)).bind fun t52 =>
          (cond t52 (some ((p0.2.2.2.length : Int) == 0)) (some false)).bind fun t58 =>
          some t58)
          (cond (p0.1 == 6)
            ((spec_OidOk p0.2.2.2).bind fun t63 =>
            (cond t63 (some (p0.2.1 == 0)) (some false)).bind fun t68 =>
            (cond t68 (some (p0.2.2.1 == [])) (some false)).bind fun t73 =>
            some t73)
            (some false)))))
    (cond (p0.1 == 128)
      (cond (p0.1 == 128)
        ((cond (p0.2.1 == 0) (some (p0.2.2.1 == [])) (some false)).bind fun t16_1 =>
        (cond t16_1 (some ((p0.2.2.2.length : Int) == 0)) (some false)).bind fun t22_1 =>
        some t22_1)
        (cond (p0.1 == 2)
          ((spec_l1Clip p0.2.1).bind fun t27_1 =>
          (cond (t27_1 == p0.2.1) (some (p0.2.2.1 == [])) (some false)).bind fun t35_1 =>
          (cond t35_1 (some ((p0.2.2.2.length : Int) == 0)) (some false)).bind fun t41_1 =>
          some t41_1)
          (cond (p0.1 == 4)
            ((cond (decide ((p0.2.2.1.length : Int) ≤ 20)) (some (p0.2.1 == 0)) (some false)).bind fun t52_1 =>
            (cond t52_1 (some ((p0.2.2.2.length : Int) == 0)) (some false)).bind fun t58_1 =>
            some t58_1)
            (cond (p0.1 == 6)
              ((spec_OidOk p0.2.2.2).bind fun t63_1 =>
              (cond t63_1 (some (p0.2.1 == 0)) (some false)).bind fun t68_1 =>
              (cond t68_1 (some (p0.2.2.1 == [])) (some false)).bind fun t73_1 =>
              some t73_1)
              (some false)))))
      (cond (p0.1 == 130)
        ((cond (p0.2.1 == 0) (some (p0.2.2.1 == [])) (some false)).bind fun t16_2 =>
        (cond t16_2 (some ((p0.2.2.2.length : Int) == 0)) (some false)).bind fun t22_2 =>
        some t22_2)
        (cond (p0.1 == 2)
          ((spec_l1Clip p0.2.1).bind fun t27_2 =>
          (cond (t27_2 == p0.2.1) (some (p0.2.2.1 == [])) (some false)).bind fun t35_2 =>
          (cond t35_2 (some ((p0.2.2.2.length : Int) == 0)) (some false)).bind fun t41_2 =>
          some t41_2)
          (cond (p0.1 == 4)
            ((cond (decide ((p0.2.2.1.length : Int) ≤ 20)) (some (p0.2.1 == 0)) (some false)).bind fun t52_2 =>
            (cond t52_2 (some ((p0.2.2.2.length : Int) == 0)) (some false)).bind fun t58_2 =>
            some t58_2)
            (cond (p0.1 == 6)
              ((spec_OidOk p0.2.2.2).bind fun t63_2 =>
              (cond t63_2 (some (p0.2.1 == 0)) (some false)).bind fun t68_2 =>
              (cond t68_2 (some (p0.2.2.1 == [])) (some false)).bind fun t73_2 =>
              some t73_2)
              (some false))))))
noncomputable def F_spec_ValOk : Fn := ⟨[.val true cVal false], [.val false (.one .bool) (some true)], fun a => spec_ValOk a⟩
def a_spec_ValOk : List (Nat × LoopAnn) := []
theorem e_spec_ValOk : fnDen ⟨tis, fns_37, [], false⟩ a_spec_ValOk Tryd.f22 (codeOf Tryd.f22) [.val true cVal false] [.val false (.one .bool) (some true)] = fun a => spec_ValOk a := by kernel_rfl
theorem m_spec_ValOk : Meets Tryd.prog 22 F_spec_ValOk := by
  have h := meets_of (ann := a_spec_ValOk) (ps := [.val true cVal false]) (rs := [.val false (.one .bool) (some true)]) g_37 mixed Tryd.func22 (by kernel_rfl) (by kernel_rfl : Tryd.f22.body = some (codeOf Tryd.f22))
  rw [e_spec_ValOk] at h
  exact h
noncomputable def fns_22 : List (FuncId × Fn) := (22, F_spec_ValOk) :: fns_37
theorem g_22 : Good Tryd.prog ⟨tis, fns_22, [], false⟩ := g_37.cons m_spec_ValOk
noncomputable def spec_l2Num_b (self : Int → Option (List UInt8)) (n0 : Int) : Option (List UInt8) :=
  cond (decide (n0 < 0))
    ((self (w64 (0 - n0))).bind fun t7 =>
    (cat [45] t7).bind fun t8 =>
    some t8)
    (cond (decide (n0 < 10))
      (let t2 := bytesOf [IntKind.u8.wrap (w64 (48 + n0))]
      some t2)
      ((self (w64 (n0.tdiv 10))).bind fun t18 =>
      (cat t18 (bytesOf [IntKind.u8.wrap (w64 (48 + (n0.tmod 10)))])).bind fun t25 =>
      some t25))
noncomputable def spec_l2Num_k : Nat → Int → Option (List UInt8)
  | 0 => fun _ => none
  | k + 1 => spec_l2Num_b (spec_l2Num_k k)
noncomputable def spec_l2Num : Int → Option (List UInt8) := spec_l2Num_k 20
def a_spec_l2Num : List (Nat × LoopAnn) := []
theorem e_spec_l2Num : (fun self : Int → Option (List UInt8) => fnDen ⟨tis, (23, ⟨[.val false (.one (.int .i64)) false], [.val false (.one .str) (some true)], fun a => self a⟩) :: fns_22, [], false⟩ a_spec_l2Num Tryd.f23 (codeOf Tryd.f23) [.val false (.one (.int .i64)) false] [.val false (.one .str) (some true)]) = fun self a => spec_l2Num_b self a := by kernel_rfl
theorem mk_spec_l2Num : ∀ k, Meets Tryd.prog 23 ⟨[.val false (.one (.int .i64)) false], [.val false (.one .str) (some true)], fun a => spec_l2Num_k k a⟩
  | 0 => ⟨⟨Tryd.f23, codeOf Tryd.f23, Tryd.func23, by kernel_rfl, by kernel_rfl⟩, by intro _ _ _ _ _ _ _ _ _ _ _ _ _ _ _ _ h; cases h⟩
  | k + 1 => by
    have h := meets_of (ann := a_spec_l2Num) (ps := [.val false (.one (.int .i64)) false]) (rs := [.val false (.one .str) (some true)]) (g_22.cons (mk_spec_l2Num k)) mixed Tryd.func23 (by kernel_rfl) (by kernel_rfl : Tryd.f23.body = some (codeOf Tryd.f23))
    rw [congrFun e_spec_l2Num (spec_l2Num_k k)] at h
    exact h
noncomputable def F_spec_l2Num : Fn := ⟨[.val false (.one (.int .i64)) false], [.val false (.one .str) (some true)], fun a => spec_l2Num a⟩
theorem m_spec_l2Num : Meets Tryd.prog 23 F_spec_l2Num := mk_spec_l2Num 20
noncomputable def fns_23 : List (FuncId × Fn) := (23, F_spec_l2Num) :: fns_22
theorem g_23 : Good Tryd.prog ⟨tis, fns_23, [], false⟩ := g_22.cons m_spec_l2Num
noncomputable def spec_OidText_l0 (o0 : List Int) (s3 : List UInt8) (i4 : Int) : Option ((List UInt8 × Int) ⊕ (List UInt8)) :=
  cond (decide (i4 < (o0.length : Int)))
    (cond (decide (i4 > 0))
      ((cat s3 [46]).bind fun t18 =>
      (at? o0 i4).bind fun x22 =>
      (spec_l2Num x22).bind fun t24 =>
      (cat t18 t24).bind fun t25 =>
      some (.inl (t25, w64 (i4 + 1))))
      ((at? o0 i4).bind fun x22_1 =>
      (spec_l2Num x22_1).bind fun t24_1 =>
      (cat s3 t24_1).bind fun t25_1 =>
      some (.inl (t25_1, w64 (i4 + 1)))))
    (some (.inr s3))
noncomputable def spec_OidText (o0 : List Int) : Option (List UInt8) :=
  (spec_OidOk o0).bind fun t6 =>
  cond (!t6)
    (some [])
    ((loop (fun z => spec_OidText_l0 o0 z.1 z.2) ([], 0)).bind fun d =>
    some d)
noncomputable def F_spec_OidText : Fn := ⟨[.val false (.one (.sl (.one (.int .i64)))) false], [.val false (.one .str) (some true)], fun a => spec_OidText a⟩
def a_spec_OidText : List (Nat × LoopAnn) := [(0, ⟨⟨[(3, false, [.dat .str]), (4, false, [.dat (.int .i64)])], []⟩,
    ⟨[(3, false, [.dat .str])], []⟩, none⟩)]
theorem e_spec_OidText : fnDen ⟨tis, fns_23, [], false⟩ a_spec_OidText Tryd.f24 (codeOf Tryd.f24) [.val false (.one (.sl (.one (.int .i64)))) false] [.val false (.one .str) (some true)] = fun a => spec_OidText a := by kernel_rfl
theorem m_spec_OidText : Meets Tryd.prog 24 F_spec_OidText := by
  have h := meets_of (ann := a_spec_OidText) (ps := [.val false (.one (.sl (.one (.int .i64)))) false]) (rs := [.val false (.one .str) (some true)]) g_23 mixed Tryd.func24 (by kernel_rfl) (by kernel_rfl : Tryd.f24.body = some (codeOf Tryd.f24))
  rw [e_spec_OidText] at h
  exact h
noncomputable def fns_24 : List (FuncId × Fn) := (24, F_spec_OidText) :: fns_23
theorem g_24 : Good Tryd.prog ⟨tis, fns_24, [], false⟩ := g_23.cons m_spec_OidText
noncomputable def spec_ValText (v0 : Val) : Option (List UInt8) :=
  (spec_ValOk v0).bind fun t4 =>
  cond (!t4)
    (some [])
    (cond (v0.1 == 2)
      ((spec_l2Num v0.2.1).bind fun t12 =>
      some t12)
      (cond (v0.1 == 4)
        ((cat [39] v0.2.2.1).bind fun t17 =>
        (cat t17 [39]).bind fun t18 =>
        some t18)
        (cond (v0.1 == 6)
          ((spec_OidText v0.2.2.2).bind fun t23 =>
          some t23)
          (cond (v0.1 == 128)
            (some [110, 111, 110, 101])
            (cond (v0.1 == 130) (some [101, 110, 100]) (some [110, 117, 108, 108]))))))
noncomputable def F_spec_ValText : Fn := ⟨[.val true cVal false], [.val false (.one .str) (some true)], fun a => spec_ValText a⟩
def a_spec_ValText : List (Nat × LoopAnn) := []
theorem e_spec_ValText : fnDen ⟨tis, fns_24, [], false⟩ a_spec_ValText Tryd.f7 (codeOf Tryd.f7) [.val true cVal false] [.val false (.one .str) (some true)] = fun a => spec_ValText a := by kernel_rfl
theorem m_spec_ValText : Meets Tryd.prog 7 F_spec_ValText := by
  have h := meets_of (ann := a_spec_ValText) (ps := [.val true cVal false]) (rs := [.val false (.one .str) (some true)]) g_24 mixed Tryd.func7 (by kernel_rfl) (by kernel_rfl : Tryd.f7.body = some (codeOf Tryd.f7))
  rw [e_spec_ValText] at h
  exact h
noncomputable def fns_7 : List (FuncId × Fn) := (7, F_spec_ValText) :: fns_24
theorem g_7 : Good Tryd.prog ⟨tis, fns_7, [], false⟩ := g_24.cons m_spec_ValText
noncomputable def spec_BindText (x0 : Bind) : Option (List UInt8) :=
  (spec_OidText x0.1).bind fun t5 =>
  (cat t5 [32, 61, 32]).bind fun t6 =>
  (spec_ValText x0.2).bind fun t9 =>
  (cat t6 t9).bind fun t10 =>
  some t10
noncomputable def F_spec_BindText : Fn := ⟨[.val true cBind false], [.val false (.one .str) (some true)], fun a => spec_BindText a⟩
def a_spec_BindText : List (Nat × LoopAnn) := []
theorem e_spec_BindText : fnDen ⟨tis, fns_7, [], false⟩ a_spec_BindText Tryd.f12 (codeOf Tryd.f12) [.val true cBind false] [.val false (.one .str) (some true)] = fun a => spec_BindText a := by kernel_rfl
theorem m_spec_BindText : Meets Tryd.prog 12 F_spec_BindText := by
  have h := meets_of (ann := a_spec_BindText) (ps := [.val true cBind false]) (rs := [.val false (.one .str) (some true)]) g_7 mixed Tryd.func12 (by kernel_rfl) (by kernel_rfl : Tryd.f12.body = some (codeOf Tryd.f12))
  rw [e_spec_BindText] at h
  exact h
noncomputable def fns_12 : List (FuncId × Fn) := (12, F_spec_BindText) :: fns_7
theorem g_12 : Good Tryd.prog ⟨tis, fns_12, [], false⟩ := g_7.cons m_spec_BindText
noncomputable def spec_l4Kind (k0 : Int) : Option Bool :=
  (cond (k0 == 160) (some true) (some (k0 == 161))).bind fun t8 =>
  (cond t8 (some true) (some (k0 == 162))).bind fun t12 =>
  (cond t12 (some true) (some (k0 == 163))).bind fun t16 =>
  (cond t16 (some true) (some (k0 == 165))).bind fun t20 =>
  some t20
noncomputable def F_spec_l4Kind : Fn := ⟨[.val false (.one (.int .i64)) false], [.val false (.one .bool) (some true)], fun a => spec_l4Kind a⟩
def a_spec_l4Kind : List (Nat × LoopAnn) := []
theorem e_spec_l4Kind : fnDen ⟨tis, fns_12, [], false⟩ a_spec_l4Kind Tryd.f43 (codeOf Tryd.f43) [.val false (.one (.int .i64)) false] [.val false (.one .bool) (some true)] = fun a => spec_l4Kind a := by kernel_rfl
theorem m_spec_l4Kind : Meets Tryd.prog 43 F_spec_l4Kind := by
  have h := meets_of (ann := a_spec_l4Kind) (ps := [.val false (.one (.int .i64)) false]) (rs := [.val false (.one .bool) (some true)]) g_12 mixed Tryd.func43 (by kernel_rfl) (by kernel_rfl : Tryd.f43.body = some (codeOf Tryd.f43))
  rw [e_spec_l4Kind] at h
  exact h
noncomputable def fns_43 : List (FuncId × Fn) := (43, F_spec_l4Kind) :: fns_12
theorem g_43 : Good Tryd.prog ⟨tis, fns_43, [], false⟩ := g_12.cons m_spec_l4Kind
noncomputable def spec_PduOk_l0 (p0 : Pdu) (t3 : Int) : Option (Int ⊕ (Unit ⊕ Bool)) :=
  cond (decide (t3 < (p0.2.2.2.2.length : Int)))
    ((at? p0.2.2.2.2 t3).bind fun x14 =>
    (spec_OidOk x14.1).bind fun t17 =>
    (cond (!t17)
      (some true)
      ((at? p0.2.2.2.2 t3).bind fun x23 =>
      (spec_ValOk x23.2).bind fun t26 =>
      some (!t26))).bind fun t28 =>
    cond t28 (some (.inr (.inr false))) (some (.inl (w64 (t3 + 1)))))
    (some (.inr (.inl ())))
noncomputable def spec_PduOk (p0 : Pdu) : Option Bool :=
  (loop (fun z => spec_PduOk_l0 p0 z) 0).bind (Sum.elim (fun d =>
    (cond (p0.1 != 162) (some (p0.1 != 165)) (some false)).bind fun t36 =>
    (cond t36
      ((cond (p0.2.2.1 != 0) (some true) (some (p0.2.2.2.1 != 0))).bind fun t45 =>
      some t45)
      (some false)).bind fun t46 =>
    cond t46
      (some false)
      ((spec_l4Kind p0.1).bind fun t49 =>
      (cond t49
        ((spec_l1Clip p0.2.1).bind fun t53 =>
        some (t53 == p0.2.1))
        (some false)).bind fun t57 =>
      (cond t57
        ((spec_l1In p0.2.2.1 0 1000).bind fun t61 =>
        some t61)
        (some false)).bind fun t62 =>
      (cond t62
        ((spec_l1In p0.2.2.2.1 0 1000).bind fun t66 =>
        some t66)
        (some false)).bind fun t67 =>
      (cond t67 (some (decide ((p0.2.2.2.2.length : Int) ≤ 10))) (some false)).bind fun t73 =>
      some t73)) (fun r => some r))
noncomputable def F_spec_PduOk : Fn := ⟨[.val true cPdu false], [.val false (.one .bool) (some true)], fun a => spec_PduOk a⟩
def a_spec_PduOk : List (Nat × LoopAnn) := [(0, ⟨⟨[(3, false, [.dat (.int .i64)]), (20, false, [.undef]), (21, false, [.undef]), (22, false, [.undef]), (23, false, [.undef]), (24, false, [.undef]), (25, false, [.undef]), (26, false, [.undef]), (27, false, [.undef])], []⟩,
    ⟨[], []⟩, some ⟨[(2, false, [.dat .bool])], []⟩⟩)]
theorem e_spec_PduOk : fnDen ⟨tis, fns_43, [], false⟩ a_spec_PduOk Tryd.f31 (codeOf Tryd.f31) [.val true cPdu false] [.val false (.one .bool) (some true)] = fun a => spec_PduOk a := by kernel_rfl
theorem m_spec_PduOk : Meets Tryd.prog 31 F_spec_PduOk := by
  have h := meets_of (ann := a_spec_PduOk) (ps := [.val true cPdu false]) (rs := [.val false (.one .bool) (some true)]) g_43 mixed Tryd.func31 (by kernel_rfl) (by kernel_rfl : Tryd.f31.body = some (codeOf Tryd.f31))
  rw [e_spec_PduOk] at h
  exact h
noncomputable def fns_31 : List (FuncId × Fn) := (31, F_spec_PduOk) :: fns_43
theorem g_31 : Good Tryd.prog ⟨tis, fns_31, [], false⟩ := g_43.cons m_spec_PduOk
noncomputable def spec_l26Kind (k0 : Int) : Option (List UInt8) :=
  cond (k0 == 160)
    (some [103, 101, 116])
    (cond (k0 == 161)
      (some [110, 101, 120, 116])
      (cond (k0 == 162)
        (let t2 := [97, 110, 115, 119, 101, 114]
        some t2)
        (cond (k0 == 163) (some [115, 101, 116]) (some [98, 117, 108, 107]))))
noncomputable def F_spec_l26Kind : Fn := ⟨[.val false (.one (.int .i64)) false], [.val false (.one .str) (some true)], fun a => spec_l26Kind a⟩
def a_spec_l26Kind : List (Nat × LoopAnn) := []
theorem e_spec_l26Kind : fnDen ⟨tis, fns_31, [], false⟩ a_spec_l26Kind Tryd.f32 (codeOf Tryd.f32) [.val false (.one (.int .i64)) false] [.val false (.one .str) (some true)] = fun a => spec_l26Kind a := by kernel_rfl
theorem m_spec_l26Kind : Meets Tryd.prog 32 F_spec_l26Kind := by
  have h := meets_of (ann := a_spec_l26Kind) (ps := [.val false (.one (.int .i64)) false]) (rs := [.val false (.one .str) (some true)]) g_31 mixed Tryd.func32 (by kernel_rfl) (by kernel_rfl : Tryd.f32.body = some (codeOf Tryd.f32))
  rw [e_spec_l26Kind] at h
  exact h
noncomputable def fns_32 : List (FuncId × Fn) := (32, F_spec_l26Kind) :: fns_31
theorem g_32 : Good Tryd.prog ⟨tis, fns_32, [], false⟩ := g_31.cons m_spec_l26Kind
noncomputable def spec_PduText_l0 (p0 : Pdu) (s3 : List UInt8) (i4 : Int) : Option ((List UInt8 × Int) ⊕ (List UInt8)) :=
  cond (decide (i4 < (p0.2.2.2.2.length : Int)))
    ((cat s3 [10]).bind fun t43 =>
    (at? p0.2.2.2.2 i4).bind fun x47 =>
    (spec_BindText x47).bind fun t49 =>
    (cat t43 t49).bind fun t50 =>
    some (.inl (t50, w64 (i4 + 1))))
    (some (.inr s3))
noncomputable def spec_PduText_l0_1 (p0 : Pdu) (s3_2 : List UInt8) (i4_1 : Int) : Option ((List UInt8 × Int) ⊕ (List UInt8)) :=
  cond (decide (i4_1 < (p0.2.2.2.2.length : Int)))
    ((cat s3_2 [10]).bind fun t43_1 =>
    (at? p0.2.2.2.2 i4_1).bind fun x47_1 =>
    (spec_BindText x47_1).bind fun t49_1 =>
    (cat t43_1 t49_1).bind fun t50_1 =>
    some (.inl (t50_1, w64 (i4_1 + 1))))
    (some (.inr s3_2))
noncomputable def spec_PduText (p0 : Pdu) : Option (List UInt8) :=
  (spec_PduOk p0).bind fun t6 =>
  cond (!t6)
    (some [])
    ((spec_l26Kind p0.1).bind fun t10 =>
    (cat t10 [32]).bind fun t11 =>
    (spec_l2Num p0.2.1).bind fun t14 =>
    (cat t11 t14).bind fun t15 =>
    (cond (p0.1 == 162) (some true) (some (p0.1 == 165))).bind fun t23 =>
    cond t23
      ((cat t15 [32]).bind fun t25 =>
      (spec_l2Num p0.2.2.1).bind fun t28 =>
      (cat t25 t28).bind fun t29 =>
      (cat t29 [32]).bind fun t30 =>
      (spec_l2Num p0.2.2.2.1).bind fun t33 =>
      (cat t30 t33).bind fun t34 =>
      (loop (fun z => spec_PduText_l0 p0 z.1 z.2) (t34, 0)).bind fun d =>
      some d)
      ((loop (fun z => spec_PduText_l0_1 p0 z.1 z.2) (t15, 0)).bind fun d_1 =>
      some d_1))
noncomputable def F_spec_PduText : Fn := ⟨[.val true cPdu false], [.val false (.one .str) (some true)], fun a => spec_PduText a⟩
def a_spec_PduText : List (Nat × LoopAnn) := [(0, ⟨⟨[(3, false, [.dat .str]), (4, false, [.dat (.int .i64)])], []⟩,
    ⟨[(3, false, [.dat .str])], []⟩, none⟩)]
theorem e_spec_PduText : fnDen ⟨tis, fns_32, [], false⟩ a_spec_PduText Tryd.f17 (codeOf Tryd.f17) [.val true cPdu false] [.val false (.one .str) (some true)] = fun a => spec_PduText a := by kernel_rfl
theorem m_spec_PduText : Meets Tryd.prog 17 F_spec_PduText := by
  have h := meets_of (ann := a_spec_PduText) (ps := [.val true cPdu false]) (rs := [.val false (.one .str) (some true)]) g_32 mixed Tryd.func17 (by kernel_rfl) (by kernel_rfl : Tryd.f17.body = some (codeOf Tryd.f17))
  rw [e_spec_PduText] at h
  exact h
noncomputable def fns_17 : List (FuncId × Fn) := (17, F_spec_PduText) :: fns_32
theorem g_17 : Good Tryd.prog ⟨tis, fns_17, [], false⟩ := g_32.cons m_spec_PduText
noncomputable def laws_toIntS_l0 (a0 : List Int) (i4 : Int) (l : List Int) : Option ((Int × List Int) ⊕ (List Int)) :=
  cond (decide (i4 < (a0.length : Int)))
    ((at? a0 i4).bind fun x18 =>
    (ix l.length i4).bind fun j20 =>
    (l[j20]?).bind fun x =>
    some (.inl (w64 (i4 + 1), l.set j20 x18)))
    (some (.inr l))
noncomputable def laws_toIntS (a0 : List Int) : Option (List Int) :=
  (mkLen (a0.length : Int)).bind fun n =>
  (loop (fun z => laws_toIntS_l0 a0 z.1 z.2) (0, List.replicate n (0 : Int))).bind fun d =>
  some d
noncomputable def F_laws_toIntS : Fn := ⟨[.val false (.one (.sl (.one (.int .i64)))) false], [.val false (.one (.sl (.one (.int .i64)))) (some true)], fun a => laws_toIntS a⟩
def a_laws_toIntS : List (Nat × LoopAnn) := [(0, ⟨⟨[(4, false, [.dat (.int .i64)])], [(265216, .keep (.one (.int .i64)) true)]⟩,
    ⟨[], [(265216, .keep (.one (.int .i64)) true)]⟩, none⟩)]
theorem e_laws_toIntS : fnDen ⟨tis, fns_17, [], false⟩ a_laws_toIntS Tryd.f25 (codeOf Tryd.f25) [.val false (.one (.sl (.one (.int .i64)))) false] [.val false (.one (.sl (.one (.int .i64)))) (some true)] = fun a => laws_toIntS a := by kernel_rfl
theorem m_laws_toIntS : Meets Tryd.prog 25 F_laws_toIntS := by
  have h := meets_of (ann := a_laws_toIntS) (ps := [.val false (.one (.sl (.one (.int .i64)))) false]) (rs := [.val false (.one (.sl (.one (.int .i64)))) (some true)]) g_17 mixed Tryd.func25 (by kernel_rfl) (by kernel_rfl : Tryd.f25.body = some (codeOf Tryd.f25))
  rw [e_laws_toIntS] at h
  exact h
noncomputable def fns_25 : List (FuncId × Fn) := (25, F_laws_toIntS) :: fns_17
theorem g_25 : Good Tryd.prog ⟨tis, fns_25, [], false⟩ := g_17.cons m_laws_toIntS
noncomputable def laws_toVal (a0 : Val) : Option Val :=
  (laws_toIntS a0.2.2.2).bind fun t15 =>
  some (a0.1, a0.2.1, a0.2.2.1, t15)
noncomputable def F_laws_toVal : Fn := ⟨[.val true cVal false], [.val true cVal (some true)], fun a => laws_toVal a⟩
def a_laws_toVal : List (Nat × LoopAnn) := []
theorem e_laws_toVal : fnDen ⟨tis, fns_25, [], false⟩ a_laws_toVal Tryd.f8 (codeOf Tryd.f8) [.val true cVal false] [.val true cVal (some true)] = fun a => laws_toVal a := by kernel_rfl
theorem m_laws_toVal : Meets Tryd.prog 8 F_laws_toVal := by
  have h := meets_of (ann := a_laws_toVal) (ps := [.val true cVal false]) (rs := [.val true cVal (some true)]) g_25 mixed Tryd.func8 (by kernel_rfl) (by kernel_rfl : Tryd.f8.body = some (codeOf Tryd.f8))
  rw [e_laws_toVal] at h
  exact h
noncomputable def fns_8 : List (FuncId × Fn) := (8, F_laws_toVal) :: fns_25
theorem g_8 : Good Tryd.prog ⟨tis, fns_8, [], false⟩ := g_25.cons m_laws_toVal
noncomputable def laws_toBind (a0 : Bind) : Option Bind :=
  (laws_toIntS a0.1).bind fun t6 =>
  (laws_toVal a0.2).bind fun t10 =>
  some (t6, t10.1, t10.2.1, t10.2.2.1, t10.2.2.2)
noncomputable def F_laws_toBind : Fn := ⟨[.val true cBind false], [.val true cBind (some true)], fun a => laws_toBind a⟩
def a_laws_toBind : List (Nat × LoopAnn) := []
theorem e_laws_toBind : fnDen ⟨tis, fns_8, [], false⟩ a_laws_toBind Tryd.f13 (codeOf Tryd.f13) [.val true cBind false] [.val true cBind (some true)] = fun a => laws_toBind a := by kernel_rfl
theorem m_laws_toBind : Meets Tryd.prog 13 F_laws_toBind := by
  have h := meets_of (ann := a_laws_toBind) (ps := [.val true cBind false]) (rs := [.val true cBind (some true)]) g_8 mixed Tryd.func13 (by kernel_rfl) (by kernel_rfl : Tryd.f13.body = some (codeOf Tryd.f13))
  rw [e_laws_toBind] at h
  exact h
noncomputable def fns_13 : List (FuncId × Fn) := (13, F_laws_toBind) :: fns_8
theorem g_13 : Good Tryd.prog ⟨tis, fns_13, [], false⟩ := g_8.cons m_laws_toBind
noncomputable def laws_toBindS_l0 (a0 : List Bind) (i4 : Int) (l : List Bind) : Option ((Int × List Bind) ⊕ (List Bind)) :=
  cond (decide (i4 < (a0.length : Int)))
    ((at? a0 i4).bind fun x18 =>
    (laws_toBind x18).bind fun t20 =>
    (ix l.length i4).bind fun j21 =>
    (l[j21]?).bind fun x =>
    some (.inl (w64 (i4 + 1), l.set j21 t20)))
    (some (.inr l))
noncomputable def laws_toBindS (a0 : List Bind) : Option (List Bind) :=
  (mkLen (a0.length : Int)).bind fun n =>
  (loop (fun z => laws_toBindS_l0 a0 z.1 z.2) (0, List.replicate n (([], 0, 0, [], []) : Bind))).bind fun d =>
  some d
noncomputable def F_laws_toBindS : Fn := ⟨[.val false (.one (.sl cBind)) false], [.val false (.one (.sl cBind)) (some true)], fun a => laws_toBindS a⟩
def a_laws_toBindS : List (Nat × LoopAnn) := [(0, ⟨⟨[(4, false, [.dat (.int .i64)])], [(265216, .keep cBind true)]⟩,
    ⟨[], [(265216, .keep cBind true)]⟩, none⟩)]
theorem e_laws_toBindS : fnDen ⟨tis, fns_13, [], false⟩ a_laws_toBindS Tryd.f33 (codeOf Tryd.f33) [.val false (.one (.sl cBind)) false] [.val false (.one (.sl cBind)) (some true)] = fun a => laws_toBindS a := by kernel_rfl
theorem m_laws_toBindS : Meets Tryd.prog 33 F_laws_toBindS := by
  have h := meets_of (ann := a_laws_toBindS) (ps := [.val false (.one (.sl cBind)) false]) (rs := [.val false (.one (.sl cBind)) (some true)]) g_13 mixed Tryd.func33 (by kernel_rfl) (by kernel_rfl : Tryd.f33.body = some (codeOf Tryd.f33))
  rw [e_laws_toBindS] at h
  exact h
noncomputable def fns_33 : List (FuncId × Fn) := (33, F_laws_toBindS) :: fns_13
theorem g_33 : Good Tryd.prog ⟨tis, fns_33, [], false⟩ := g_13.cons m_laws_toBindS
noncomputable def laws_toPdu (a0 : Pdu) : Option Pdu :=
  (laws_toBindS a0.2.2.2.2).bind fun t18 =>
  some (a0.1, a0.2.1, a0.2.2.1, a0.2.2.2.1, t18)
noncomputable def F_laws_toPdu : Fn := ⟨[.val true cPdu false], [.val true cPdu (some true)], fun a => laws_toPdu a⟩
def a_laws_toPdu : List (Nat × LoopAnn) := []
theorem e_laws_toPdu : fnDen ⟨tis, fns_33, [], false⟩ a_laws_toPdu Tryd.f18 (codeOf Tryd.f18) [.val true cPdu false] [.val true cPdu (some true)] = fun a => laws_toPdu a := by kernel_rfl
theorem m_laws_toPdu : Meets Tryd.prog 18 F_laws_toPdu := by
  have h := meets_of (ann := a_laws_toPdu) (ps := [.val true cPdu false]) (rs := [.val true cPdu (some true)]) g_33 mixed Tryd.func18 (by kernel_rfl) (by kernel_rfl : Tryd.f18.body = some (codeOf Tryd.f18))
  rw [e_laws_toPdu] at h
  exact h
noncomputable def fns_18 : List (FuncId × Fn) := (18, F_laws_toPdu) :: fns_33
theorem g_18 : Good Tryd.prog ⟨tis, fns_18, [], false⟩ := g_33.cons m_laws_toPdu
noncomputable def impl_in (n0 : Int) (low1 : Int) (high2 : Int) : Option Bool :=
  (cond (decide (n0 ≥ low1)) (some (decide (n0 ≤ high2))) (some false)).bind fun t14 =>
  some t14
noncomputable def F_impl_in : Fn := ⟨[.val false (.one (.int .i64)) false, .val false (.one (.int .i64)) false, .val false (.one (.int .i64)) false], [.val false (.one .bool) (some true)], fun a => impl_in a.1 a.2.1 a.2.2⟩
def a_impl_in : List (Nat × LoopAnn) := []
theorem e_impl_in : fnDen ⟨tis, fns_18, [], false⟩ a_impl_in Tryd.f45 (codeOf Tryd.f45) [.val false (.one (.int .i64)) false, .val false (.one (.int .i64)) false, .val false (.one (.int .i64)) false] [.val false (.one .bool) (some true)] = fun a => impl_in a.1 a.2.1 a.2.2 := by kernel_rfl
theorem m_impl_in : Meets Tryd.prog 45 F_impl_in := by
  have h := meets_of (ann := a_impl_in) (ps := [.val false (.one (.int .i64)) false, .val false (.one (.int .i64)) false, .val false (.one (.int .i64)) false]) (rs := [.val false (.one .bool) (some true)]) g_18 mixed Tryd.func45 (by kernel_rfl) (by kernel_rfl : Tryd.f45.body = some (codeOf Tryd.f45))
  rw [e_impl_in] at h
  exact h
noncomputable def fns_45 : List (FuncId × Fn) := (45, F_impl_in) :: fns_18
theorem g_45 : Good Tryd.prog ⟨tis, fns_45, [], false⟩ := g_18.cons m_impl_in
noncomputable def impl_isInt (n0 : Int) : Option Bool :=
  (impl_in n0 (-2147483648) 2147483647).bind fun t4 =>
  some t4
noncomputable def F_impl_isInt : Fn := ⟨[.val false (.one (.int .i64)) false], [.val false (.one .bool) (some true)], fun a => impl_isInt a⟩
def a_impl_isInt : List (Nat × LoopAnn) := []
theorem e_impl_isInt : fnDen ⟨tis, fns_45, [], false⟩ a_impl_isInt Tryd.f38 (codeOf Tryd.f38) [.val false (.one (.int .i64)) false] [.val false (.one .bool) (some true)] = fun a => impl_isInt a := by kernel_rfl
theorem m_impl_isInt : Meets Tryd.prog 38 F_impl_isInt := by
  have h := meets_of (ann := a_impl_isInt) (ps := [.val false (.one (.int .i64)) false]) (rs := [.val false (.one .bool) (some true)]) g_45 mixed Tryd.func38 (by kernel_rfl) (by kernel_rfl : Tryd.f38.body = some (codeOf Tryd.f38))
  rw [e_impl_isInt] at h
  exact h
noncomputable def fns_38 : List (FuncId × Fn) := (38, F_impl_isInt) :: fns_45
theorem g_38 : Good Tryd.prog ⟨tis, fns_38, [], false⟩ := g_45.cons m_impl_isInt
noncomputable def impl_OidOk_l0 (o0 : List Int) (t7 : Int) : Option (Int ⊕ (Unit ⊕ Bool)) :=
  cond (decide (t7 < (o0.length : Int)))
    ((at? o0 t7).bind fun x9 =>
    (impl_in x9 0 100000).bind fun t12 =>
    cond (!t12) (some (.inr (.inr false))) (some (.inl (w64 (t7 + 1)))))
    (some (.inr (.inl ())))
noncomputable def impl_OidOk (o0 : List Int) : Option Bool :=
  (loop (fun z => impl_OidOk_l0 o0 z) 0).bind (Sum.elim (fun d =>
    (impl_in (o0.length : Int) 1 10).bind fun t17 =>
    some t17) (fun r => some r))
noncomputable def F_impl_OidOk : Fn := ⟨[.val false (.one (.sl (.one (.int .i64)))) false], [.val false (.one .bool) (some true)], fun a => impl_OidOk a⟩
def a_impl_OidOk : List (Nat × LoopAnn) := [(0, ⟨⟨[(7, false, [.dat (.int .i64)])], []⟩,
    ⟨[], []⟩, some ⟨[(2, false, [.dat .bool])], []⟩⟩)]
theorem e_impl_OidOk : fnDen ⟨tis, fns_38, [], false⟩ a_impl_OidOk Tryd.f39 (codeOf Tryd.f39) [.val false (.one (.sl (.one (.int .i64)))) false] [.val false (.one .bool) (some true)] = fun a => impl_OidOk a := by kernel_rfl
theorem m_impl_OidOk : Meets Tryd.prog 39 F_impl_OidOk := by
  have h := meets_of (ann := a_impl_OidOk) (ps := [.val false (.one (.sl (.one (.int .i64)))) false]) (rs := [.val false (.one .bool) (some true)]) g_38 mixed Tryd.func39 (by kernel_rfl) (by kernel_rfl : Tryd.f39.body = some (codeOf Tryd.f39))
  rw [e_impl_OidOk] at h
  exact h
noncomputable def fns_39 : List (FuncId × Fn) := (39, F_impl_OidOk) :: fns_38
theorem g_39 : Good Tryd.prog ⟨tis, fns_39, [], false⟩ := g_38.cons m_impl_OidOk
noncomputable def impl_SameOid_l0 (a0 : List Int) (b1 : List Int) (t13 : Int) : Option (Int ⊕ (Unit ⊕ Bool)) :=
  cond (decide (t13 < (a0.length : Int)))
    ((at? a0 t13).bind fun x18 =>
    (at? b1 t13).bind fun x22 =>
    cond (x18 != x22) (some (.inr (.inr false))) (some (.inl (w64 (t13 + 1)))))
    (some (.inr (.inl ())))
noncomputable def impl_SameOid (a0 : List Int) (b1 : List Int) : Option Bool :=
  cond ((a0.length : Int) != (b1.length : Int))
    (some false)
    ((loop (fun z => impl_SameOid_l0 a0 b1 z) 0).bind (Sum.elim (fun d =>
      some true) (fun r => some r)))
noncomputable def F_impl_SameOid : Fn := ⟨[.val false (.one (.sl (.one (.int .i64)))) false, .val false (.one (.sl (.one (.int .i64)))) false], [.val false (.one .bool) (some true)], fun a => impl_SameOid a.1 a.2⟩
def a_impl_SameOid : List (Nat × LoopAnn) := [(0, ⟨⟨[(13, false, [.dat (.int .i64)])], []⟩,
    ⟨[], []⟩, some ⟨[(4, false, [.dat .bool])], []⟩⟩)]
theorem e_impl_SameOid : fnDen ⟨tis, fns_39, [], false⟩ a_impl_SameOid Tryd.f46 (codeOf Tryd.f46) [.val false (.one (.sl (.one (.int .i64)))) false, .val false (.one (.sl (.one (.int .i64)))) false] [.val false (.one .bool) (some true)] = fun a => impl_SameOid a.1 a.2 := by kernel_rfl
theorem m_impl_SameOid : Meets Tryd.prog 46 F_impl_SameOid := by
  have h := meets_of (ann := a_impl_SameOid) (ps := [.val false (.one (.sl (.one (.int .i64)))) false, .val false (.one (.sl (.one (.int .i64)))) false]) (rs := [.val false (.one .bool) (some true)]) g_39 mixed Tryd.func46 (by kernel_rfl) (by kernel_rfl : Tryd.f46.body = some (codeOf Tryd.f46))
  rw [e_impl_SameOid] at h
  exact h
noncomputable def fns_46 : List (FuncId × Fn) := (46, F_impl_SameOid) :: fns_39
theorem g_46 : Good Tryd.prog ⟨tis, fns_46, [], false⟩ := g_39.cons m_impl_SameOid
noncomputable def impl_SameVal (a0 : Val) (b1 : Val) : Option Bool :=
  (cond (a0.1 == b1.1) (some (a0.2.1 == b1.2.1)) (some false)).bind fun t16 =>
  (cond t16 (some (a0.2.2.1 == b1.2.2.1)) (some false)).bind fun t23 =>
  (cond t23
    ((impl_SameOid a0.2.2.2 b1.2.2.2).bind fun t29 =>
    some t29)
    (some false)).bind fun t30 =>
  some t30
noncomputable def F_impl_SameVal : Fn := ⟨[.val true cVal false, .val true cVal false], [.val false (.one .bool) (some true)], fun a => impl_SameVal a.1 a.2⟩
def a_impl_SameVal : List (Nat × LoopAnn) := []
theorem e_impl_SameVal : fnDen ⟨tis, fns_46, [], false⟩ a_impl_SameVal Tryd.f40 (codeOf Tryd.f40) [.val true cVal false, .val true cVal false] [.val false (.one .bool) (some true)] = fun a => impl_SameVal a.1 a.2 := by kernel_rfl
theorem m_impl_SameVal : Meets Tryd.prog 40 F_impl_SameVal := by
  have h := meets_of (ann := a_impl_SameVal) (ps := [.val true cVal false, .val true cVal false]) (rs := [.val false (.one .bool) (some true)]) g_46 mixed Tryd.func40 (by kernel_rfl) (by kernel_rfl : Tryd.f40.body = some (codeOf Tryd.f40))
  rw [e_impl_SameVal] at h
  exact h
noncomputable def fns_40 : List (FuncId × Fn) := (40, F_impl_SameVal) :: fns_46
theorem g_40 : Good Tryd.prog ⟨tis, fns_40, [], false⟩ := g_46.cons m_impl_SameVal
noncomputable def impl_ValOk (v0 : Val) : Option Bool :=
  cond (v0.1 == 2)
    ((impl_isInt v0.2.1).bind fun t17 =>
    (cond t17
      ((impl_SameVal v0 (v0.1, v0.2.1, [], [])).bind fun t43 =>
      some t43)
      (some false)).bind fun t44 =>
    some t44)
    (cond (v0.1 == 4)
      (let ok4 := decide ((v0.2.2.1.length : Int) ≤ 20)
      (cond ok4
        ((impl_SameVal v0 (v0.1, 0, v0.2.2.1, [])).bind fun t43_1 =>
        some t43_1)
        (some false)).bind fun t44_1 =>
      some t44_1)
      (cond (v0.1 == 6)
        ((impl_OidOk v0.2.2.2).bind fun t34 =>
        (cond t34
          ((impl_SameVal v0 (v0.1, 0, [], v0.2.2.2)).bind fun t43_2 =>
          some t43_2)
          (some false)).bind fun t44_2 =>
        some t44_2)
        (cond (v0.1 == 5)
          (cond (v0.1 == 5)
            (((impl_SameVal v0 (v0.1, 0, [], [])).bind fun t43_3 =>
            some t43_3).bind fun t44_3 =>
            some t44_3)
            (some false))
          (cond (v0.1 == 128)
            (cond (v0.1 == 128)
              (((impl_SameVal v0 (v0.1, 0, [], [])).bind fun t43_4 =>
              some t43_4).bind fun t44_4 =>
              some t44_4)
              (some false))
            (cond (v0.1 == 130)
              (((impl_SameVal v0 (v0.1, 0, [], [])).bind fun t43_5 =>
              some t43_5).bind fun t44_5 =>
              some t44_5)
              (some false))))))
noncomputable def F_impl_ValOk : Fn := ⟨[.val true cVal false], [.val false (.one .bool) (some true)], fun a => impl_ValOk a⟩
def a_impl_ValOk : List (Nat × LoopAnn) := []
theorem e_impl_ValOk : fnDen ⟨tis, fns_40, [], false⟩ a_impl_ValOk Tryd.f26 (codeOf Tryd.f26) [.val true cVal false] [.val false (.one .bool) (some true)] = fun a => impl_ValOk a := by kernel_rfl
theorem m_impl_ValOk : Meets Tryd.prog 26 F_impl_ValOk := by
  have h := meets_of (ann := a_impl_ValOk) (ps := [.val true cVal false]) (rs := [.val false (.one .bool) (some true)]) g_40 mixed Tryd.func26 (by kernel_rfl) (by kernel_rfl : Tryd.f26.body = some (codeOf Tryd.f26))
  rw [e_impl_ValOk] at h
  exact h
noncomputable def fns_26 : List (FuncId × Fn) := (26, F_impl_ValOk) :: fns_40
theorem g_26 : Good Tryd.prog ⟨tis, fns_26, [], false⟩ := g_40.cons m_impl_ValOk
noncomputable def impl_OidText_l0 (o0 : List Int) (t11 : Int) (out3 : List (List UInt8)) : Option ((Int × List (List UInt8)) ⊕ (List (List UInt8))) :=
  cond (decide (t11 < (o0.length : Int)))
    ((at? o0 t11).bind fun x13 =>
    (libItoa x13).bind fun t17 =>
    (app out3 [t17]).bind fun zs19 =>
    some (.inl (w64 (t11 + 1), zs19)))
    (some (.inr out3))
noncomputable def impl_OidText (o0 : List Int) : Option (List UInt8) :=
  (impl_OidOk o0).bind fun t7 =>
  cond (!t7)
    (some [])
    ((loop (fun z => impl_OidText_l0 o0 z.1 z.2) (0, [])).bind fun d =>
    (libJoin d [46]).bind fun t22 =>
    some t22)
noncomputable def F_impl_OidText : Fn := ⟨[.val false (.one (.sl (.one (.int .i64)))) false], [.val false (.one .str) (some true)], fun a => impl_OidText a⟩
def a_impl_OidText : List (Nat × LoopAnn) := [(0, ⟨⟨[(3, false, [.own 1000000000]), (11, false, [.dat (.int .i64)])], [(1000000000, .root (.one .str) true)]⟩,
    ⟨[(3, false, [.own 1000000300])], [(1000000300, .root (.one .str) true)]⟩, none⟩)]
theorem e_impl_OidText : fnDen ⟨tis, fns_26, [], false⟩ a_impl_OidText Tryd.f28 (codeOf Tryd.f28) [.val false (.one (.sl (.one (.int .i64)))) false] [.val false (.one .str) (some true)] = fun a => impl_OidText a := by kernel_rfl
theorem m_impl_OidText : Meets Tryd.prog 28 F_impl_OidText := by
  have h := meets_of (ann := a_impl_OidText) (ps := [.val false (.one (.sl (.one (.int .i64)))) false]) (rs := [.val false (.one .str) (some true)]) g_26 mixed Tryd.func28 (by kernel_rfl) (by kernel_rfl : Tryd.f28.body = some (codeOf Tryd.f28))
  rw [e_impl_OidText] at h
  exact h
noncomputable def fns_28 : List (FuncId × Fn) := (28, F_impl_OidText) :: fns_26
theorem g_28 : Good Tryd.prog ⟨tis, fns_28, [], false⟩ := g_26.cons m_impl_OidText
noncomputable def impl_ValText (v0 : Val) : Option (List UInt8) :=
  (impl_ValOk v0).bind fun t4 =>
  cond (!t4)
    (some [])
    (cond (v0.1 == 5)
      (some [110, 117, 108, 108])
      (cond (v0.1 == 2)
        ((libItoa v0.2.1).bind fun t14 =>
        some t14)
        (cond (v0.1 == 4)
          ((cat [39] v0.2.2.1).bind fun t19 =>
          (cat t19 [39]).bind fun t20 =>
          some t20)
          (cond (v0.1 == 6)
            ((impl_OidText v0.2.2.2).bind fun t25 =>
            some t25)
            (cond (v0.1 == 128) (some [110, 111, 110, 101]) (some [101, 110, 100]))))))
noncomputable def F_impl_ValText : Fn := ⟨[.val true cVal false], [.val false (.one .str) (some true)], fun a => impl_ValText a⟩
def a_impl_ValText : List (Nat × LoopAnn) := []
theorem e_impl_ValText : fnDen ⟨tis, fns_28, [], false⟩ a_impl_ValText Tryd.f9 (codeOf Tryd.f9) [.val true cVal false] [.val false (.one .str) (some true)] = fun a => impl_ValText a := by kernel_rfl
theorem m_impl_ValText : Meets Tryd.prog 9 F_impl_ValText := by
  have h := meets_of (ann := a_impl_ValText) (ps := [.val true cVal false]) (rs := [.val false (.one .str) (some true)]) g_28 mixed Tryd.func9 (by kernel_rfl) (by kernel_rfl : Tryd.f9.body = some (codeOf Tryd.f9))
  rw [e_impl_ValText] at h
  exact h
noncomputable def fns_9 : List (FuncId × Fn) := (9, F_impl_ValText) :: fns_28
theorem g_9 : Good Tryd.prog ⟨tis, fns_9, [], false⟩ := g_28.cons m_impl_ValText
noncomputable def impl_BindText (x0 : Bind) : Option (List UInt8) :=
  (impl_OidText x0.1).bind fun t5 =>
  (cat t5 [32, 61, 32]).bind fun t6 =>
  (impl_ValText x0.2).bind fun t9 =>
  (cat t6 t9).bind fun t10 =>
  some t10
noncomputable def F_impl_BindText : Fn := ⟨[.val true cBind false], [.val false (.one .str) (some true)], fun a => impl_BindText a⟩
def a_impl_BindText : List (Nat × LoopAnn) := []
theorem e_impl_BindText : fnDen ⟨tis, fns_9, [], false⟩ a_impl_BindText Tryd.f14 (codeOf Tryd.f14) [.val true cBind false] [.val false (.one .str) (some true)] = fun a => impl_BindText a := by kernel_rfl
theorem m_impl_BindText : Meets Tryd.prog 14 F_impl_BindText := by
  have h := meets_of (ann := a_impl_BindText) (ps := [.val true cBind false]) (rs := [.val false (.one .str) (some true)]) g_9 mixed Tryd.func14 (by kernel_rfl) (by kernel_rfl : Tryd.f14.body = some (codeOf Tryd.f14))
  rw [e_impl_BindText] at h
  exact h
noncomputable def fns_14 : List (FuncId × Fn) := (14, F_impl_BindText) :: fns_9
theorem g_14 : Good Tryd.prog ⟨tis, fns_14, [], false⟩ := g_9.cons m_impl_BindText
noncomputable def impl_PduOk_l1 (p0 : Pdu) (t35 : Int) : Option (Int ⊕ (Unit ⊕ Bool)) :=
  cond (decide (t35 < (p0.2.2.2.2.length : Int)))
    ((at? p0.2.2.2.2 t35).bind fun x38 =>
    (cond (decide (t35 ≥ 10))
      (some true)
      ((impl_OidOk x38.1).bind fun t45 =>
      some (!t45))).bind fun t47 =>
    (cond t47
      (some true)
      ((impl_ValOk x38.2).bind fun t51 =>
      some (!t51))).bind fun t53 =>
    cond t53 (some (.inr (.inr false))) (some (.inl (w64 (t35 + 1)))))
    (some (.inr (.inl ())))
noncomputable def impl_PduOk_l1_1 (p0 : Pdu) (t35_1 : Int) : Option (Int ⊕ (Unit ⊕ Bool)) :=
  cond (decide (t35_1 < (p0.2.2.2.2.length : Int)))
    ((at? p0.2.2.2.2 t35_1).bind fun x38_1 =>
    (cond (decide (t35_1 ≥ 10))
      (some true)
      ((impl_OidOk x38_1.1).bind fun t45_1 =>
      some (!t45_1))).bind fun t47_1 =>
    (cond t47_1
      (some true)
      ((impl_ValOk x38_1.2).bind fun t51_1 =>
      some (!t51_1))).bind fun t53_1 =>
    cond t53_1 (some (.inr (.inr false))) (some (.inl (w64 (t35_1 + 1)))))
    (some (.inr (.inl ())))
noncomputable def impl_PduOk_l1_2 (p0 : Pdu) (t35_2 : Int) : Option (Int ⊕ (Unit ⊕ Bool)) :=
  cond (decide (t35_2 < (p0.2.2.2.2.length : Int)))
    ((at? p0.2.2.2.2 t35_2).bind fun x38_2 =>
    (cond (decide (t35_2 ≥ 10))
      (some true)
      ((impl_OidOk x38_2.1).bind fun t45_2 =>
      some (!t45_2))).bind fun t47_2 =>
    (cond t47_2
      (some true)
      ((impl_ValOk x38_2.2).bind fun t51_2 =>
      some (!t51_2))).bind fun t53_2 =>
    cond t53_2 (some (.inr (.inr false))) (some (.inl (w64 (t35_2 + 1)))))
    (some (.inr (.inl ())))
noncomputable def impl_PduOk_l1_3 (p0 : Pdu) (t35_3 : Int) : Option (Int ⊕ (Unit ⊕ Bool)) :=
  cond (decide (t35_3 < (p0.2.2.2.2.length : Int)))
    ((at? p0.2.2.2.2 t35_3).bind fun x38_3 =>
    (cond (decide (t35_3 ≥ 10))
      (some true)
      ((impl_OidOk x38_3.1).bind fun t45_3 =>
      some (!t45_3))).bind fun t47_3 =>
    (cond t47_3
      (some true)
      ((impl_ValOk x38_3.2).bind fun t51_3 =>
      some (!t51_3))).bind fun t53_3 =>
    cond t53_3 (some (.inr (.inr false))) (some (.inl (w64 (t35_3 + 1)))))
    (some (.inr (.inl ())))
noncomputable def impl_PduOk_l1_4 (p0 : Pdu) (t35_4 : Int) : Option (Int ⊕ (Unit ⊕ Bool)) :=
  cond (decide (t35_4 < (p0.2.2.2.2.length : Int)))
    ((at? p0.2.2.2.2 t35_4).bind fun x38_4 =>
    (cond (decide (t35_4 ≥ 10))
      (some true)
      ((impl_OidOk x38_4.1).bind fun t45_4 =>
      some (!t45_4))).bind fun t47_4 =>
    (cond t47_4
      (some true)
      ((impl_ValOk x38_4.2).bind fun t51_4 =>
      some (!t51_4))).bind fun t53_4 =>
    cond t53_4 (some (.inr (.inr false))) (some (.inl (w64 (t35_4 + 1)))))
    (some (.inr (.inl ())))
noncomputable def impl_PduOk_l1_5 (p0 : Pdu) (t35_5 : Int) : Option (Int ⊕ (Unit ⊕ Bool)) :=
  cond (decide (t35_5 < (p0.2.2.2.2.length : Int)))
    ((at? p0.2.2.2.2 t35_5).bind fun x38_5 =>
    (cond (decide (t35_5 ≥ 10))
      (some true)
      ((impl_OidOk x38_5.1).bind fun t45_5 =>
      some (!t45_5))).bind fun t47_5 =>
    (cond t47_5
      (some true)
      ((impl_ValOk x38_5.2).bind fun t51_5 =>
      some (!t51_5))).bind fun t53_5 =>
    cond t53_5 (some (.inr (.inr false))) (some (.inl (w64 (t35_5 + 1)))))
    (some (.inr (.inl ())))
noncomputable def impl_PduOk_l1_6 (p0 : Pdu) (t35_6 : Int) : Option (Int ⊕ (Unit ⊕ Bool)) :=
  cond (decide (t35_6 < (p0.2.2.2.2.length : Int)))
    ((at? p0.2.2.2.2 t35_6).bind fun x38_6 =>
    (cond (decide (t35_6 ≥ 10))
      (some true)
      ((impl_OidOk x38_6.1).bind fun t45_6 =>
      some (!t45_6))).bind fun t47_6 =>
    (cond t47_6
      (some true)
      ((impl_ValOk x38_6.2).bind fun t51_6 =>
      some (!t51_6))).bind fun t53_6 =>
    cond t53_6 (some (.inr (.inr false))) (some (.inl (w64 (t35_6 + 1)))))
    (some (.inr (.inl ())))
noncomputable def impl_PduOk_l1_7 (p0 : Pdu) (t35_7 : Int) : Option (Int ⊕ (Unit ⊕ Bool)) :=
  cond (decide (t35_7 < (p0.2.2.2.2.length : Int)))
    ((at? p0.2.2.2.2 t35_7).bind fun x38_7 =>
    (cond (decide (t35_7 ≥ 10))
      (some true)
      ((impl_OidOk x38_7.1).bind fun t45_7 =>
      some (!t45_7))).bind fun t47_7 =>
    (cond t47_7
      (some true)
      ((impl_ValOk x38_7.2).bind fun t51_7 =>
      some (!t51_7))).bind fun t53_7 =>
    cond t53_7 (some (.inr (.inr false))) (some (.inl (w64 (t35_7 + 1)))))
    (some (.inr (.inl ())))
noncomputable def impl_PduOk_l1_8 (p0 : Pdu) (t35_8 : Int) : Option (Int ⊕ (Unit ⊕ Bool)) :=
  cond (decide (t35_8 < (p0.2.2.2.2.length : Int)))
    ((at? p0.2.2.2.2 t35_8).bind fun x38_8 =>
    (cond (decide (t35_8 ≥ 10))
      (some true)
      ((impl_OidOk x38_8.1).bind fun t45_8 =>
      some (!t45_8))).bind fun t47_8 =>
    (cond t47_8
      (some true)
      ((impl_ValOk x38_8.2).bind fun t51_8 =>
      some (!t51_8))).bind fun t53_8 =>
    cond t53_8 (some (.inr (.inr false))) (some (.inl (w64 (t35_8 + 1)))))
    (some (.inr (.inl ())))
noncomputable def impl_PduOk (p0 : Pdu) : Option Bool :=
  cond (p0.1 == 160)
    (cond (p0.1 == 160)
      ((cond (p0.2.2.1 != 0) (some true) (some (p0.2.2.2.1 != 0))).bind fun t18 =>
      cond t18
        (some false)
        ((loop (fun z => impl_PduOk_l1 p0 z) 0).bind (Sum.elim (fun d =>
          (impl_isInt p0.2.1).bind fun t57 =>
          some t57) (fun r => some r))))
      (cond (p0.1 == 162)
        (cond (p0.1 == 162)
          ((impl_in p0.2.2.1 0 1000).bind fun t24 =>
          (cond (!t24)
            (some true)
            ((impl_in p0.2.2.2.1 0 1000).bind fun t29 =>
            some (!t29))).bind fun t31 =>
          cond t31
            (some false)
            ((loop (fun z => impl_PduOk_l1_1 p0 z) 0).bind (Sum.elim (fun d_1 =>
              (impl_isInt p0.2.1).bind fun t57_1 =>
              some t57_1) (fun r_1 => some r_1))))
          (some false))
        (cond (p0.1 == 165)
          ((impl_in p0.2.2.1 0 1000).bind fun t24_1 =>
          (cond (!t24_1)
            (some true)
            ((impl_in p0.2.2.2.1 0 1000).bind fun t29_1 =>
            some (!t29_1))).bind fun t31_1 =>
          cond t31_1
            (some false)
            ((loop (fun z => impl_PduOk_l1_2 p0 z) 0).bind (Sum.elim (fun d_2 =>
              (impl_isInt p0.2.1).bind fun t57_2 =>
              some t57_2) (fun r_2 => some r_2))))
          (some false))))
    (cond (p0.1 == 161)
      (cond (p0.1 == 161)
        ((cond (p0.2.2.1 != 0) (some true) (some (p0.2.2.2.1 != 0))).bind fun t18_1 =>
        cond t18_1
          (some false)
          ((loop (fun z => impl_PduOk_l1_3 p0 z) 0).bind (Sum.elim (fun d_3 =>
            (impl_isInt p0.2.1).bind fun t57_3 =>
            some t57_3) (fun r_3 => some r_3))))
        (cond (p0.1 == 162)
          (cond (p0.1 == 162)
            ((impl_in p0.2.2.1 0 1000).bind fun t24_2 =>
            (cond (!t24_2)
              (some true)
              ((impl_in p0.2.2.2.1 0 1000).bind fun t29_2 =>
              some (!t29_2))).bind fun t31_2 =>
            cond t31_2
              (some false)
              ((loop (fun z => impl_PduOk_l1_4 p0 z) 0).bind (Sum.elim (fun d_4 =>
                (impl_isInt p0.2.1).bind fun t57_4 =>
                some t57_4) (fun r_4 => some r_4))))
            (some false))
          (cond (p0.1 == 165)
            ((impl_in p0.2.2.1 0 1000).bind fun t24_3 =>
            (cond (!t24_3)
              (some true)
              ((impl_in p0.2.2.2.1 0 1000).bind fun t29_3 =>
              some (!t29_3))).bind fun t31_3 =>
            cond t31_3
              (some false)
              ((loop (fun z => impl_PduOk_l1_5 p0 z) 0).bind (Sum.elim (fun d_5 =>
                (impl_isInt p0.2.1).bind fun t57_5 =>
                some t57_5) (fun r_5 => some r_5))))
            (some false))))
      (cond (p0.1 == 163)
        ((cond (p0.2.2.1 != 0) (some true) (some (p0.2.2.2.1 != 0))).bind fun t18_2 =>
        cond t18_2
          (some false)
          ((loop (fun z => impl_PduOk_l1_6 p0 z) 0).bind (Sum.elim (fun d_6 =>
            (impl_isInt p0.2.1).bind fun t57_6 =>
            some t57_6) (fun r_6 => some r_6))))
        (cond (p0.1 == 162)
          (cond (p0.1 == 162)
            ((impl_in p0.2.2.1 0 1000).bind fun t24_4 =>
            (cond (!t24_4)
              (some true)
              ((impl_in p0.2.2.2.1 0 1000).bind fun t29_4 =>
              some (!t29_4))).bind fun t31_4 =>
            cond t31_4
              (some false)
              ((loop (fun z => impl_PduOk_l1_7 p0 z) 0).bind (Sum.elim (fun d_7 =>
                (impl_isInt p0.2.1).bind fun t57_7 =>
                some t57_7) (fun r_7 => some r_7))))
            (some false))
          (cond (p0.1 == 165)
            ((impl_in p0.2.2.1 0 1000).bind fun t24_5 =>
            (cond (!t24_5)
              (some true)
              ((impl_in p0.2.2.2.1 0 1000).bind fun t29_5 =>
              some (!t29_5))).bind fun t31_5 =>
            cond t31_5
              (some false)
              ((loop (fun z => impl_PduOk_l1_8 p0 z) 0).bind (Sum.elim (fun d_8 =>
                (impl_isInt p0.2.1).bind fun t57_8 =>
                some t57_8) (fun r_8 => some r_8))))
            (some false)))))
noncomputable def F_impl_PduOk : Fn := ⟨[.val true cPdu false], [.val false (.one .bool) (some true)], fun a => impl_PduOk a⟩
def a_impl_PduOk : List (Nat × LoopAnn) := [(1, ⟨⟨[(35, false, [.dat (.int .i64)]), (43, false, [.undef]), (44, false, [.undef]), (45, false, [.undef]), (46, false, [.undef]), (49, false, [.undef]), (50, false, [.undef]), (51, false, [.undef]), (52, false, [.undef])], []⟩,
    ⟨[], []⟩, some ⟨[(2, false, [.dat .bool])], []⟩⟩)]
theorem e_impl_PduOk : fnDen ⟨tis, fns_14, [], false⟩ a_impl_PduOk Tryd.f34 (codeOf Tryd.f34) [.val true cPdu false] [.val false (.one .bool) (some true)] = fun a => impl_PduOk a := by kernel_rfl
theorem m_impl_PduOk : Meets Tryd.prog 34 F_impl_PduOk := by
  have h := meets_of (ann := a_impl_PduOk) (ps := [.val true cPdu false]) (rs := [.val false (.one .bool) (some true)]) g_14 mixed Tryd.func34 (by kernel_rfl) (by kernel_rfl : Tryd.f34.body = some (codeOf Tryd.f34))
  rw [e_impl_PduOk] at h
  exact h
noncomputable def fns_34 : List (FuncId × Fn) := (34, F_impl_PduOk) :: fns_14
theorem g_34 : Good Tryd.prog ⟨tis, fns_34, [], false⟩ := g_14.cons m_impl_PduOk
noncomputable def impl_PduText_l1 (p0 : Pdu) (out4 : List UInt8) (t48 : Int) : Option ((List UInt8 × Int) ⊕ (List UInt8)) :=
  cond (decide (t48 < (p0.2.2.2.2.length : Int)))
    ((at? p0.2.2.2.2 t48).bind fun x50 =>
    (impl_BindText x50).bind fun t54 =>
    (cat [10] t54).bind fun t55 =>
    (cat out4 t55).bind fun t56 =>
    some (.inl (t56, w64 (t48 + 1))))
    (some (.inr out4))
noncomputable def impl_PduText_l1_1 (p0 : Pdu) (out4_2 : List UInt8) (t48_1 : Int) : Option ((List UInt8 × Int) ⊕ (List UInt8)) :=
  cond (decide (t48_1 < (p0.2.2.2.2.length : Int)))
    ((at? p0.2.2.2.2 t48_1).bind fun x50_1 =>
    (impl_BindText x50_1).bind fun t54_1 =>
    (cat [10] t54_1).bind fun t55_1 =>
    (cat out4_2 t55_1).bind fun t56_1 =>
    some (.inl (t56_1, w64 (t48_1 + 1))))
    (some (.inr out4_2))
noncomputable def impl_PduText_l1_2 (p0 : Pdu) (out4_4 : List UInt8) (t48_2 : Int) : Option ((List UInt8 × Int) ⊕ (List UInt8)) :=
  cond (decide (t48_2 < (p0.2.2.2.2.length : Int)))
    ((at? p0.2.2.2.2 t48_2).bind fun x50_2 =>
    (impl_BindText x50_2).bind fun t54_2 =>
    (cat [10] t54_2).bind fun t55_2 =>
    (cat out4_4 t55_2).bind fun t56_2 =>
    some (.inl (t56_2, w64 (t48_2 + 1))))
    (some (.inr out4_4))
noncomputable def impl_PduText_l1_3 (p0 : Pdu) (out4_6 : List UInt8) (t48_3 : Int) : Option ((List UInt8 × Int) ⊕ (List UInt8)) :=
  cond (decide (t48_3 < (p0.2.2.2.2.length : Int)))
    ((at? p0.2.2.2.2 t48_3).bind fun x50_3 =>
    (impl_BindText x50_3).bind fun t54_3 =>
    (cat [10] t54_3).bind fun t55_3 =>
    (cat out4_6 t55_3).bind fun t56_3 =>
    some (.inl (t56_3, w64 (t48_3 + 1))))
    (some (.inr out4_6))
noncomputable def impl_PduText_l1_4 (p0 : Pdu) (out4_8 : List UInt8) (t48_4 : Int) : Option ((List UInt8 × Int) ⊕ (List UInt8)) :=
  cond (decide (t48_4 < (p0.2.2.2.2.length : Int)))
    ((at? p0.2.2.2.2 t48_4).bind fun x50_4 =>
    (impl_BindText x50_4).bind fun t54_4 =>
    (cat [10] t54_4).bind fun t55_4 =>
    (cat out4_8 t55_4).bind fun t56_4 =>
    some (.inl (t56_4, w64 (t48_4 + 1))))
    (some (.inr out4_8))
noncomputable def impl_PduText_l1_5 (p0 : Pdu) (out4_10 : List UInt8) (t48_5 : Int) : Option ((List UInt8 × Int) ⊕ (List UInt8)) :=
  cond (decide (t48_5 < (p0.2.2.2.2.length : Int)))
    ((at? p0.2.2.2.2 t48_5).bind fun x50_5 =>
    (impl_BindText x50_5).bind fun t54_5 =>
    (cat [10] t54_5).bind fun t55_5 =>
    (cat out4_10 t55_5).bind fun t56_5 =>
    some (.inl (t56_5, w64 (t48_5 + 1))))
    (some (.inr out4_10))
noncomputable def impl_PduText_l1_6 (p0 : Pdu) (out4_12 : List UInt8) (t48_6 : Int) : Option ((List UInt8 × Int) ⊕ (List UInt8)) :=
  cond (decide (t48_6 < (p0.2.2.2.2.length : Int)))
    ((at? p0.2.2.2.2 t48_6).bind fun x50_6 =>
    (impl_BindText x50_6).bind fun t54_6 =>
    (cat [10] t54_6).bind fun t55_6 =>
    (cat out4_12 t55_6).bind fun t56_6 =>
    some (.inl (t56_6, w64 (t48_6 + 1))))
    (some (.inr out4_12))
noncomputable def impl_PduText_l1_7 (p0 : Pdu) (out4_14 : List UInt8) (t48_7 : Int) : Option ((List UInt8 × Int) ⊕ (List UInt8)) :=
  cond (decide (t48_7 < (p0.2.2.2.2.length : Int)))
    ((at? p0.2.2.2.2 t48_7).bind fun x50_7 =>
    (impl_BindText x50_7).bind fun t54_7 =>
    (cat [10] t54_7).bind fun t55_7 =>
    (cat out4_14 t55_7).bind fun t56_7 =>
    some (.inl (t56_7, w64 (t48_7 + 1))))
    (some (.inr out4_14))
noncomputable def impl_PduText_l1_8 (p0 : Pdu) (out4_16 : List UInt8) (t48_8 : Int) : Option ((List UInt8 × Int) ⊕ (List UInt8)) :=
  cond (decide (t48_8 < (p0.2.2.2.2.length : Int)))
    ((at? p0.2.2.2.2 t48_8).bind fun x50_8 =>
    (impl_BindText x50_8).bind fun t54_8 =>
    (cat [10] t54_8).bind fun t55_8 =>
    (cat out4_16 t55_8).bind fun t56_8 =>
    some (.inl (t56_8, w64 (t48_8 + 1))))
    (some (.inr out4_16))
noncomputable def impl_PduText_l1_9 (p0 : Pdu) (out4_18 : List UInt8) (t48_9 : Int) : Option ((List UInt8 × Int) ⊕ (List UInt8)) :=
  cond (decide (t48_9 < (p0.2.2.2.2.length : Int)))
    ((at? p0.2.2.2.2 t48_9).bind fun x50_9 =>
    (impl_BindText x50_9).bind fun t54_9 =>
    (cat [10] t54_9).bind fun t55_9 =>
    (cat out4_18 t55_9).bind fun t56_9 =>
    some (.inl (t56_9, w64 (t48_9 + 1))))
    (some (.inr out4_18))
noncomputable def impl_PduText (p0 : Pdu) : Option (List UInt8) :=
  (impl_PduOk p0).bind fun t8 =>
  cond (!t8)
    (some [])
    (cond (p0.1 == 160)
      ((cat [103, 101, 116] [32]).bind fun t21 =>
      (libItoa p0.2.1).bind fun t24 =>
      (cat t21 t24).bind fun t25 =>
      (cond (p0.1 == 162) (some true) (some (p0.1 == 165))).bind fun t33 =>
      cond t33
        ((libItoa p0.2.2.1).bind fun t37 =>
        (cat [32] t37).bind fun t38 =>
        (cat t38 [32]).bind fun t39 =>
        (libItoa p0.2.2.2.1).bind fun t42 =>
        (cat t39 t42).bind fun t43 =>
        (cat t25 t43).bind fun t44 =>
        (loop (fun z => impl_PduText_l1 p0 z.1 z.2) (t44, 0)).bind fun d =>
        some d)
        ((loop (fun z => impl_PduText_l1_1 p0 z.1 z.2) (t25, 0)).bind fun d_1 =>
        some d_1))
      (cond (p0.1 == 161)
        ((cat [110, 101, 120, 116] [32]).bind fun t21_1 =>
        (libItoa p0.2.1).bind fun t24_1 =>
        (cat t21_1 t24_1).bind fun t25_1 =>
        (cond (p0.1 == 162) (some true) (some (p0.1 == 165))).bind fun t33_1 =>
        cond t33_1
          ((libItoa p0.2.2.1).bind fun t37_1 =>
          (cat [32] t37_1).bind fun t38_1 =>
          (cat t38_1 [32]).bind fun t39_1 =>
          (libItoa p0.2.2.2.1).bind fun t42_1 =>
          (cat t39_1 t42_1).bind fun t43_1 =>
          (cat t25_1 t43_1).bind fun t44_1 =>
          (loop (fun z => impl_PduText_l1_2 p0 z.1 z.2) (t44_1, 0)).bind fun d_2 =>
          some d_2)
          ((loop (fun z => impl_PduText_l1_3 p0 z.1 z.2) (t25_1, 0)).bind fun d_3 =>
          some d_3))
        (cond (p0.1 == 162)
          (let word3 := [97, 110, 115, 119, 101, 114]
          (cat word3 [32]).bind fun t21_2 =>
          (libItoa p0.2.1).bind fun t24_2 =>
          (cat t21_2 t24_2).bind fun t25_2 =>
          (cond (p0.1 == 162) (some true) (some (p0.1 == 165))).bind fun t33_2 =>
          cond t33_2
            ((libItoa p0.2.2.1).bind fun t37_2 =>
            (cat [32] t37_2).bind fun t38_2 =>
            (cat t38_2 [32]).bind fun t39_2 =>
            (libItoa p0.2.2.2.1).bind fun t42_2 =>
            (cat t39_2 t42_2).bind fun t43_2 =>
            (cat t25_2 t43_2).bind fun t44_2 =>
            (loop (fun z => impl_PduText_l1_4 p0 z.1 z.2) (t44_2, 0)).bind fun d_4 =>
            some d_4)
            ((loop (fun z => impl_PduText_l1_5 p0 z.1 z.2) (t25_2, 0)).bind fun d_5 =>
            some d_5))
          (cond (p0.1 == 163)
            ((cat [115, 101, 116] [32]).bind fun t21_3 =>
            (libItoa p0.2.1).bind fun t24_3 =>
            (cat t21_3 t24_3).bind fun t25_3 =>
            (cond (p0.1 == 162) (some true) (some (p0.1 == 165))).bind fun t33_3 =>
            cond t33_3
              ((libItoa p0.2.2.1).bind fun t37_3 =>
              (cat [32] t37_3).bind fun t38_3 =>
              (cat t38_3 [32]).bind fun t39_3 =>
              (libItoa p0.2.2.2.1).bind fun t42_3 =>
              (cat t39_3 t42_3).bind fun t43_3 =>
              (cat t25_3 t43_3).bind fun t44_3 =>
              (loop (fun z => impl_PduText_l1_6 p0 z.1 z.2) (t44_3, 0)).bind fun d_6 =>
              some d_6)
              ((loop (fun z => impl_PduText_l1_7 p0 z.1 z.2) (t25_3, 0)).bind fun d_7 =>
              some d_7))
            ((cat [98, 117, 108, 107] [32]).bind fun t21_4 =>
            (libItoa p0.2.1).bind fun t24_4 =>
            (cat t21_4 t24_4).bind fun t25_4 =>
            (cond (p0.1 == 162) (some true) (some (p0.1 == 165))).bind fun t33_4 =>
            cond t33_4
              ((libItoa p0.2.2.1).bind fun t37_4 =>
              (cat [32] t37_4).bind fun t38_4 =>
              (cat t38_4 [32]).bind fun t39_4 =>
              (libItoa p0.2.2.2.1).bind fun t42_4 =>
              (cat t39_4 t42_4).bind fun t43_4 =>
              (cat t25_4 t43_4).bind fun t44_4 =>
              (loop (fun z => impl_PduText_l1_8 p0 z.1 z.2) (t44_4, 0)).bind fun d_8 =>
              some d_8)
              ((loop (fun z => impl_PduText_l1_9 p0 z.1 z.2) (t25_4, 0)).bind fun d_9 =>
              some d_9))))))
noncomputable def F_impl_PduText : Fn := ⟨[.val true cPdu false], [.val false (.one .str) (some true)], fun a => impl_PduText a⟩
def a_impl_PduText : List (Nat × LoopAnn) := [(1, ⟨⟨[(4, false, [.dat .str]), (48, false, [.dat (.int .i64)])], []⟩,
    ⟨[(4, false, [.dat .str])], []⟩, none⟩)]
theorem e_impl_PduText : fnDen ⟨tis, fns_34, [], false⟩ a_impl_PduText Tryd.f19 (codeOf Tryd.f19) [.val true cPdu false] [.val false (.one .str) (some true)] = fun a => impl_PduText a := by kernel_rfl
theorem m_impl_PduText : Meets Tryd.prog 19 F_impl_PduText := by
  have h := meets_of (ann := a_impl_PduText) (ps := [.val true cPdu false]) (rs := [.val false (.one .str) (some true)]) g_34 mixed Tryd.func19 (by kernel_rfl) (by kernel_rfl : Tryd.f19.body = some (codeOf Tryd.f19))
  rw [e_impl_PduText] at h
  exact h
noncomputable def fns_19 : List (FuncId × Fn) := (19, F_impl_PduText) :: fns_34
theorem g_19 : Good Tryd.prog ⟨tis, fns_19, [], false⟩ := g_34.cons m_impl_PduText
noncomputable def laws_eqIntS_l0 (a0 : List Int) (b1 : List Int) (i5 : Int) : Option (Int ⊕ (Unit ⊕ Bool)) :=
  cond (decide (i5 < (a0.length : Int)))
    ((at? a0 i5).bind fun x19 =>
    (at? b1 i5).bind fun x23 =>
    cond (x19 != x23) (some (.inr (.inr false))) (some (.inl (w64 (i5 + 1)))))
    (some (.inr (.inl ())))
noncomputable def laws_eqIntS (a0 : List Int) (b1 : List Int) : Option Bool :=
  cond ((a0.length : Int) != (b1.length : Int))
    (some false)
    ((loop (fun z => laws_eqIntS_l0 a0 b1 z) 0).bind (Sum.elim (fun d =>
      some true) (fun r => some r)))
noncomputable def F_laws_eqIntS : Fn := ⟨[.val false (.one (.sl (.one (.int .i64)))) false, .val false (.one (.sl (.one (.int .i64)))) false], [.val false (.one .bool) (some true)], fun a => laws_eqIntS a.1 a.2⟩
def a_laws_eqIntS : List (Nat × LoopAnn) := [(0, ⟨⟨[(5, false, [.dat (.int .i64)])], []⟩,
    ⟨[], []⟩, some ⟨[(4, false, [.dat .bool])], []⟩⟩)]
theorem e_laws_eqIntS : fnDen ⟨tis, fns_19, [], false⟩ a_laws_eqIntS Tryd.f29 (codeOf Tryd.f29) [.val false (.one (.sl (.one (.int .i64)))) false, .val false (.one (.sl (.one (.int .i64)))) false] [.val false (.one .bool) (some true)] = fun a => laws_eqIntS a.1 a.2 := by kernel_rfl
theorem m_laws_eqIntS : Meets Tryd.prog 29 F_laws_eqIntS := by
  have h := meets_of (ann := a_laws_eqIntS) (ps := [.val false (.one (.sl (.one (.int .i64)))) false, .val false (.one (.sl (.one (.int .i64)))) false]) (rs := [.val false (.one .bool) (some true)]) g_19 mixed Tryd.func29 (by kernel_rfl) (by kernel_rfl : Tryd.f29.body = some (codeOf Tryd.f29))
  rw [e_laws_eqIntS] at h
  exact h
noncomputable def fns_29 : List (FuncId × Fn) := (29, F_laws_eqIntS) :: fns_19
theorem g_29 : Good Tryd.prog ⟨tis, fns_29, [], false⟩ := g_19.cons m_laws_eqIntS
noncomputable def laws_eqVal (a0 : Val) (b1 : Val) : Option Bool :=
  cond (a0.1 != b1.1)
    (some false)
    (cond (a0.2.1 != b1.2.1)
      (some false)
      (cond (!(a0.2.2.1 == b1.2.2.1))
        (some false)
        ((laws_eqIntS a0.2.2.2 b1.2.2.2).bind fun t24 =>
        cond (!t24) (some false) (some true))))
noncomputable def F_laws_eqVal : Fn := ⟨[.val true cVal false, .val true cVal false], [.val false (.one .bool) (some true)], fun a => laws_eqVal a.1 a.2⟩
def a_laws_eqVal : List (Nat × LoopAnn) := []
theorem e_laws_eqVal : fnDen ⟨tis, fns_29, [], false⟩ a_laws_eqVal Tryd.f10 (codeOf Tryd.f10) [.val true cVal false, .val true cVal false] [.val false (.one .bool) (some true)] = fun a => laws_eqVal a.1 a.2 := by kernel_rfl
theorem m_laws_eqVal : Meets Tryd.prog 10 F_laws_eqVal := by
  have h := meets_of (ann := a_laws_eqVal) (ps := [.val true cVal false, .val true cVal false]) (rs := [.val false (.one .bool) (some true)]) g_29 mixed Tryd.func10 (by kernel_rfl) (by kernel_rfl : Tryd.f10.body = some (codeOf Tryd.f10))
  rw [e_laws_eqVal] at h
  exact h
noncomputable def fns_10 : List (FuncId × Fn) := (10, F_laws_eqVal) :: fns_29
theorem g_10 : Good Tryd.prog ⟨tis, fns_10, [], false⟩ := g_29.cons m_laws_eqVal
noncomputable def laws_eqBind (a0 : Bind) (b1 : Bind) : Option Bool :=
  (laws_eqIntS a0.1 b1.1).bind fun t9 =>
  cond (!t9)
    (some false)
    ((laws_eqVal a0.2 b1.2).bind fun t15 =>
    cond (!t15) (some false) (some true))
noncomputable def F_laws_eqBind : Fn := ⟨[.val true cBind false, .val true cBind false], [.val false (.one .bool) (some true)], fun a => laws_eqBind a.1 a.2⟩
def a_laws_eqBind : List (Nat × LoopAnn) := []
theorem e_laws_eqBind : fnDen ⟨tis, fns_10, [], false⟩ a_laws_eqBind Tryd.f15 (codeOf Tryd.f15) [.val true cBind false, .val true cBind false] [.val false (.one .bool) (some true)] = fun a => laws_eqBind a.1 a.2 := by kernel_rfl
theorem m_laws_eqBind : Meets Tryd.prog 15 F_laws_eqBind := by
  have h := meets_of (ann := a_laws_eqBind) (ps := [.val true cBind false, .val true cBind false]) (rs := [.val false (.one .bool) (some true)]) g_10 mixed Tryd.func15 (by kernel_rfl) (by kernel_rfl : Tryd.f15.body = some (codeOf Tryd.f15))
  rw [e_laws_eqBind] at h
  exact h
noncomputable def fns_15 : List (FuncId × Fn) := (15, F_laws_eqBind) :: fns_10
theorem g_15 : Good Tryd.prog ⟨tis, fns_15, [], false⟩ := g_10.cons m_laws_eqBind
noncomputable def laws_eqBindS_l0 (a0 : List Bind) (b1 : List Bind) (i5 : Int) : Option (Int ⊕ (Unit ⊕ Bool)) :=
  cond (decide (i5 < (a0.length : Int)))
    ((at? a0 i5).bind fun x19 =>
    (at? b1 i5).bind fun x23 =>
    (laws_eqBind x19 x23).bind fun t25 =>
    cond (!t25) (some (.inr (.inr false))) (some (.inl (w64 (i5 + 1)))))
    (some (.inr (.inl ())))
noncomputable def laws_eqBindS (a0 : List Bind) (b1 : List Bind) : Option Bool :=
  cond ((a0.length : Int) != (b1.length : Int))
    (some false)
    ((loop (fun z => laws_eqBindS_l0 a0 b1 z) 0).bind (Sum.elim (fun d =>
      some true) (fun r => some r)))
noncomputable def F_laws_eqBindS : Fn := ⟨[.val false (.one (.sl cBind)) false, .val false (.one (.sl cBind)) false], [.val false (.one .bool) (some true)], fun a => laws_eqBindS a.1 a.2⟩
def a_laws_eqBindS : List (Nat × LoopAnn) := [(0, ⟨⟨[(5, false, [.dat (.int .i64)])], []⟩,
    ⟨[], []⟩, some ⟨[(4, false, [.dat .bool])], []⟩⟩)]
theorem e_laws_eqBindS : fnDen ⟨tis, fns_15, [], false⟩ a_laws_eqBindS Tryd.f35 (codeOf Tryd.f35) [.val false (.one (.sl cBind)) false, .val false (.one (.sl cBind)) false] [.val false (.one .bool) (some true)] = fun a => laws_eqBindS a.1 a.2 := by kernel_rfl
theorem m_laws_eqBindS : Meets Tryd.prog 35 F_laws_eqBindS := by
  have h := meets_of (ann := a_laws_eqBindS) (ps := [.val false (.one (.sl cBind)) false, .val false (.one (.sl cBind)) false]) (rs := [.val false (.one .bool) (some true)]) g_15 mixed Tryd.func35 (by kernel_rfl) (by kernel_rfl : Tryd.f35.body = some (codeOf Tryd.f35))
  rw [e_laws_eqBindS] at h
  exact h
noncomputable def fns_35 : List (FuncId × Fn) := (35, F_laws_eqBindS) :: fns_15
theorem g_35 : Good Tryd.prog ⟨tis, fns_35, [], false⟩ := g_15.cons m_laws_eqBindS
noncomputable def laws_eqPdu (a0 : Pdu) (b1 : Pdu) : Option Bool :=
  cond (a0.1 != b1.1)
    (some false)
    (cond (a0.2.1 != b1.2.1)
      (some false)
      (cond (a0.2.2.1 != b1.2.2.1)
        (some false)
        (cond (a0.2.2.2.1 != b1.2.2.2.1)
          (some false)
          ((laws_eqBindS a0.2.2.2.2 b1.2.2.2.2).bind fun t29 =>
          cond (!t29) (some false) (some true)))))
noncomputable def F_laws_eqPdu : Fn := ⟨[.val true cPdu false, .val true cPdu false], [.val false (.one .bool) (some true)], fun a => laws_eqPdu a.1 a.2⟩
def a_laws_eqPdu : List (Nat × LoopAnn) := []
theorem e_laws_eqPdu : fnDen ⟨tis, fns_35, [], false⟩ a_laws_eqPdu Tryd.f20 (codeOf Tryd.f20) [.val true cPdu false, .val true cPdu false] [.val false (.one .bool) (some true)] = fun a => laws_eqPdu a.1 a.2 := by kernel_rfl
theorem m_laws_eqPdu : Meets Tryd.prog 20 F_laws_eqPdu := by
  have h := meets_of (ann := a_laws_eqPdu) (ps := [.val true cPdu false, .val true cPdu false]) (rs := [.val false (.one .bool) (some true)]) g_35 mixed Tryd.func20 (by kernel_rfl) (by kernel_rfl : Tryd.f20.body = some (codeOf Tryd.f20))
  rw [e_laws_eqPdu] at h
  exact h
noncomputable def fns_20 : List (FuncId × Fn) := (20, F_laws_eqPdu) :: fns_35
theorem g_20 : Good Tryd.prog ⟨tis, fns_20, [], false⟩ := g_35.cons m_laws_eqPdu
noncomputable def laws_FnExactPduText (aP0 : Pdu) : Option Bool :=
  (laws_szPdu aP0 1048576).bind fun t9 =>
  cond (decide (t9 < 0))
    (some true)
    ((laws_toPdu aP0).bind fun t13 =>
    (spec_PduText t13).bind fun t14 =>
    (laws_toPdu aP0).bind fun t16 =>
    (impl_PduText t16).bind fun t18 =>
    cond (!(t18 == t14))
      (some false)
      ((laws_toPdu aP0).bind fun t24 =>
      (laws_eqPdu t16 t24).bind fun t25 =>
      cond (!t25) (some false) (some true)))
noncomputable def F_laws_FnExactPduText : Fn := ⟨[.val true cPdu false], [.val false (.one .bool) (some true)], fun a => laws_FnExactPduText a⟩
def a_laws_FnExactPduText : List (Nat × LoopAnn) := []
theorem e_laws_FnExactPduText : fnDen ⟨tis, fns_20, [], false⟩ a_laws_FnExactPduText Tryd.f5 (codeOf Tryd.f5) [.val true cPdu false] [.val false (.one .bool) (some true)] = fun a => laws_FnExactPduText a := by kernel_rfl
theorem m_laws_FnExactPduText : Meets Tryd.prog 5 F_laws_FnExactPduText := by
  have h := meets_of (ann := a_laws_FnExactPduText) (ps := [.val true cPdu false]) (rs := [.val false (.one .bool) (some true)]) g_20 mixed Tryd.func5 (by kernel_rfl) (by kernel_rfl : Tryd.f5.body = some (codeOf Tryd.f5))
  rw [e_laws_FnExactPduText] at h
  exact h
end Go.V.W

