/- The law FnVlans: its functions as plain ones, what they come to, worked out. No condition. -/
import Derived.Test.YtloainegonlibaaVlansQ
namespace Go.V.W
set_option linter.unusedVariables false
def vlR (d : Int × List UInt8 × Int × Int × Int × Int × Int × List Pt × List Fent × List Vrow × List Int) (t45 : Bridge × Int × Int) (port dst : Int) : Option Bool :=
    (q_impl_Forward t45.1 port (w64 (dst * 50), 9, 0, [])).bind fun t60 =>
    (cond (t45.2.1 == 0) (some ((d.2.2.2.2.2.2.2.1.length : Int) == 4)) (some false)).bind fun t70 =>
    (cond t70 (some ((t60.2.length : Int) == 1)) (some false)).bind fun t75 =>
    (cond t75
      ((ix t60.2.length 0).bind fun j78 =>
      (t60.2[j78]?).bind fun x80 =>
      some (x80.1 == (bxor .i64 port 1)))
      (some false)).bind fun t84 =>
    (cond t84
      ((ix t60.2.length 0).bind fun j87 =>
      (t60.2[j87]?).bind fun x90 =>
      some (x90.2.2.2.1 == 0))
      (some false)).bind fun t92 =>
    some t92
def vl (port dst : Int) : Option Bool :=
  (q_impl_BridgeNew 1 4).bind fun t13 =>
    (qloop (fun z => q_laws_FnVlans_l0 z.1 z.2.1 z.2.2.1 z.2.2.2.1 z.2.2.2.2.1 z.2.2.2.2.2.1 z.2.2.2.2.2.2.1 z.2.2.2.2.2.2.2.1 z.2.2.2.2.2.2.2.2.1 z.2.2.2.2.2.2.2.2.2.1 z.2.2.2.2.2.2.2.2.2.2.1 z.2.2.2.2.2.2.2.2.2.2.2) (0, t13.1, t13.2.1, t13.2.2.2.2.2.2.1, t13.2.2.2.2.2.2.2.1, t13.2.2.2.2.2.2.2.2.1, t13.2.2.2.2.2.2.2.2.2.1, t13.2.2.2.2.2.2.2.2.2.2, t13.2.2.1, t13.2.2.2.1, t13.2.2.2.2.1, t13.2.2.2.2.2.1)).bind fun d =>
    (q_laws_number 4).bind fun t24 =>
    (q_laws_number 12).bind fun t27 =>
    (q_laws_number 12).bind fun t30 =>
    (q_laws_number 2).bind fun t33 =>
    (q_laws_number 2).bind fun t36 =>
    (q_laws_number 3).bind fun t39 =>
    (q_laws_number 3).bind fun t42 =>
    (q_impl_SetAll (d.1, d.2.1, d.2.2.2.2.2.2.2.1, d.2.2.2.2.2.2.2.2.1, d.2.2.2.2.2.2.2.2.2.1, d.2.2.2.2.2.2.2.2.2.2, d.2.2.1, d.2.2.2.1, d.2.2.2.2.1, d.2.2.2.2.2.1, d.2.2.2.2.2.2.1) ([(([1, 3, 1, 3, 1, 2] : List Int), t24.1, t24.2.1, t24.2.2.1, t24.2.2.2), (([1, 3, 1, 3, 2, 2] : List Int), t27.1, t27.2.1, t27.2.2.1, t27.2.2.2), (([1, 3, 1, 3, 3, 2] : List Int), t30.1, t30.2.1, t30.2.2.1, t30.2.2.2), (([1, 3, 1, 2, 4, 3] : List Int), t33.1, t33.2.1, t33.2.2.1, t33.2.2.2), (([1, 3, 1, 2, 4, 4] : List Int), t36.1, t36.2.1, t36.2.2.1, t36.2.2.2), (([1, 3, 1, 3, 3, 1] : List Int), t39.1, t39.2.1, t39.2.2.1, t39.2.2.2), (([1, 3, 1, 3, 2, 1] : List Int), t42.1, t42.2.1, t42.2.2.1, t42.2.2.2)])).bind fun t45 =>
    vlR d t45 port dst
def vlO (m n : Option Int) : Option Bool :=
  (q_impl_BridgeNew 1 4).bind fun t13 =>
    (qloop (fun z => q_laws_FnVlans_l0 z.1 z.2.1 z.2.2.1 z.2.2.2.1 z.2.2.2.2.1 z.2.2.2.2.2.1 z.2.2.2.2.2.2.1 z.2.2.2.2.2.2.2.1 z.2.2.2.2.2.2.2.2.1 z.2.2.2.2.2.2.2.2.2.1 z.2.2.2.2.2.2.2.2.2.2.1 z.2.2.2.2.2.2.2.2.2.2.2) (0, t13.1, t13.2.1, t13.2.2.2.2.2.2.1, t13.2.2.2.2.2.2.2.1, t13.2.2.2.2.2.2.2.2.1, t13.2.2.2.2.2.2.2.2.2.1, t13.2.2.2.2.2.2.2.2.2.2, t13.2.2.1, t13.2.2.2.1, t13.2.2.2.2.1, t13.2.2.2.2.2.1)).bind fun d =>
    (q_laws_number 4).bind fun t24 =>
    (q_laws_number 12).bind fun t27 =>
    (q_laws_number 12).bind fun t30 =>
    (q_laws_number 2).bind fun t33 =>
    (q_laws_number 2).bind fun t36 =>
    (q_laws_number 3).bind fun t39 =>
    (q_laws_number 3).bind fun t42 =>
    (q_impl_SetAll (d.1, d.2.1, d.2.2.2.2.2.2.2.1, d.2.2.2.2.2.2.2.2.1, d.2.2.2.2.2.2.2.2.2.1, d.2.2.2.2.2.2.2.2.2.2, d.2.2.1, d.2.2.2.1, d.2.2.2.2.1, d.2.2.2.2.2.1, d.2.2.2.2.2.2.1) ([(([1, 3, 1, 3, 1, 2] : List Int), t24.1, t24.2.1, t24.2.2.1, t24.2.2.2), (([1, 3, 1, 3, 2, 2] : List Int), t27.1, t27.2.1, t27.2.2.1, t27.2.2.2), (([1, 3, 1, 3, 3, 2] : List Int), t30.1, t30.2.1, t30.2.2.1, t30.2.2.2), (([1, 3, 1, 2, 4, 3] : List Int), t33.1, t33.2.1, t33.2.2.1, t33.2.2.2), (([1, 3, 1, 2, 4, 4] : List Int), t36.1, t36.2.1, t36.2.2.1, t36.2.2.2), (([1, 3, 1, 3, 3, 1] : List Int), t39.1, t39.2.1, t39.2.2.1, t39.2.2.2), (([1, 3, 1, 3, 2, 1] : List Int), t42.1, t42.2.1, t42.2.2.1, t42.2.2.2)])).bind fun t45 =>
    m.bind fun t50 => n.bind fun t56 => vlR d t45 (t50.tmod 4) (t56.tmod 2)
theorem vl0 : vl 0 0 = some true := by kernel_rfl
theorem vl1 : vl 1 0 = some true := by kernel_rfl
theorem vl2 : vl 2 0 = some true := by kernel_rfl
theorem vl3 : vl 3 0 = some true := by kernel_rfl
theorem vl4 : vl 0 1 = some true := by kernel_rfl
theorem vl5 : vl 1 1 = some true := by kernel_rfl
theorem vl6 : vl 2 1 = some true := by kernel_rfl
theorem vl7 : vl 3 1 = some true := by kernel_rfl
theorem vlO_some (a b : Int) : vlO (some a) (some b) = vl (a.tmod 4) (b.tmod 2) := by
  unfold vlO vl
  repeat (refine congrArg (Option.bind _) (funext fun _ => ?_))
  rfl
theorem vlO_eq (p : List Int) : q_laws_FnVlans p = (q_laws_big p).bind fun t12 => cond t12 (some true) (vlO (q_laws_at p 2) (q_laws_at p 3)) := by
  unfold q_laws_FnVlans vlO vlR
  rfl
end Go.V.W
