/- The law FnRings: part of the proof that for every input it returns true. No condition. -/
import Derived.Test.YtloainegonlibaaRingsQ
namespace Go.V.W
set_option linter.unusedVariables false
def rgL (m : Int) (t23 : Net) (x50 : Int) (t59 : Net) (t10 : Int) : Option (Int ⊕ (Unit ⊕ Bool)) :=
  cond ((qlt (t10) ((qw (3 + m)))))
    ((q_impl_DistTrue t23 t10).bind fun t67 =>
    (cond ((qlt ((qw ((qw (3 + m)).tdiv 2))) (t67)))
      (some true)
      ((q_impl_Live t59).bind fun t73 =>
      (q_laws_has t73 t10).bind fun t75 =>
      some (!(t75 == (t10 != x50))))).bind fun t80 =>
    cond t80 (some (.inr (.inr false))) (some (.inl (qw (t10 + 1)))))
    (some (.inr (.inl ())))
def rgT (m : Int) (t23 : Net) (t25 : List Int) (t48 : Int) : Option Bool :=
      (ix t25.length t48).bind fun j49 =>
      (t25[j49]?).bind fun x50 =>
      (q_impl_Step t23 (4, x50)).bind fun t55 =>
      (q_impl_Rounds t55.1 20).bind fun t59 =>
      (qloop (fun z => rgL m t23 x50 t59 z) 0).bind (Sum.elim (fun d =>
        (cond t55.2
          ((q_impl_Agreed t59).bind fun t84 =>
          some t84)
          (some false)).bind fun t85 =>
        (cond t85
          ((q_impl_Safe t59).bind fun t88 =>
          some (t88 == 0))
          (some false)).bind fun t90 =>
        some t90) (fun r => some r))
def rgS (m t21 t48 : Int) : Option Bool :=
    (q_laws_ring (qw (3 + m)) t21).bind fun t22 =>
    (q_impl_Rounds t22 20).bind fun t23 =>
    (q_impl_Live t23).bind fun t25 =>
    (cond ((t23.1.length : Int) != (qw (3 + m)))
      (some true)
      ((q_impl_Agreed t23).bind fun t33 =>
      some (!t33))).bind fun t35 =>
    (cond t35
      (some true)
      (some ((t25.length : Int) != (qw ((qw (3 + m)) - 1))))).bind fun t42 =>
    cond t42
      (some false)
      (rgT m t23 t25 t48)
def rgR (a : Int) (c : Option Int) (t21 : Int) : Option Bool :=
    (q_laws_ring (qw (3 + (a.tmod 4))) t21).bind fun t22 =>
    (q_impl_Rounds t22 20).bind fun t23 =>
    (q_impl_Live t23).bind fun t25 =>
    (cond ((t23.1.length : Int) != (qw (3 + (a.tmod 4))))
      (some true)
      ((q_impl_Agreed t23).bind fun t33 =>
      some (!t33))).bind fun t35 =>
    (cond t35
      (some true)
      (some ((t25.length : Int) != (qw ((qw (3 + (a.tmod 4))) - 1))))).bind fun t42 =>
    cond t42
      (some false)
      (c.bind fun t45 =>
      (rem t45 (qw ((qw (3 + (a.tmod 4))) - 1))).bind fun t48 =>
      (ix t25.length t48).bind fun j49 =>
      (t25[j49]?).bind fun x50 =>
      (q_impl_Step t23 (4, x50)).bind fun t55 =>
      (q_impl_Rounds t55.1 20).bind fun t59 =>
      (qloop (fun z => q_laws_FnRings_l0 a t23 x50 t59 z) 0).bind (Sum.elim (fun d =>
        (cond t55.2
          ((q_impl_Agreed t59).bind fun t84 =>
          some t84)
          (some false)).bind fun t85 =>
        (cond t85
          ((q_impl_Safe t59).bind fun t88 =>
          some (t88 == 0))
          (some false)).bind fun t90 =>
        some t90) (fun r => some r)))
theorem rg_eq (p : List Int) : q_laws_FnRings p = (q_laws_big p).bind fun t12 => cond t12 (some true) ((q_laws_at p 2).bind fun t14 => (q_laws_at p 3).bind fun t19 => (rem t19 (qw (3 + (t14.tmod 4)))).bind fun t21 => rgR t14 (q_laws_at p 4) t21) := by
  unfold q_laws_FnRings rgR
  rfl
theorem rgR_some (a c t21 t48 : Int) (h : rem c (qw ((qw (3 + (a.tmod 4))) - 1)) = some t48) : rgR a (some c) t21 = rgS (a.tmod 4) t21 t48 := by
  unfold rgR rgS rgT
  repeat (first | with_reducible refine congrArg (Option.bind _) (funext fun _ => ?_) | with_reducible refine congrArg (cond _ _) ?_)
  rw [Option.bind_some, h, Option.bind_some]
  rfl
end Go.V.W
