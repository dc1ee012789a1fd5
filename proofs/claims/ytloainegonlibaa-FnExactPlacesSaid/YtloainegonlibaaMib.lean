/- The law FnExactPlaces: part of the proof that for every input it returns true. No condition. -/
import Derived.Test.YtloainegonlibaaPlaces
import Derived.Test.YtloainegonlibaaV3
namespace Go.V.W
set_option linter.unusedVariables false
set_option linter.unusedSimpArgs false
/-- The same loop. -/
theorem loop_congr {α β : Type} {f g : α → Option (α ⊕ β)} (Inv : α → Prop) (h : ∀ x, Inv x → f x = g x) (hi : ∀ x y, Inv x → f x = some (.inl y) → Inv y) {x : α} (h0 : Inv x) : loop f x = loop g x := by
  have key : ∀ k x, Inv x → iter f k x = iter g k x := by
    intro k
    induction k with
    | zero => intro x _; rfl
    | succ k ih =>
      intro x hx
      rw [iter_succ, iter_succ, ← h x hx]
      cases hf : f x with
      | none => rfl
      | some v => cases v with
        | inl y => exact ih y (hi x y hx hf)
        | inr b => rfl
  have hex : (∃ k, (iter f k x).isSome) ↔ ∃ k, (iter g k x).isSome := by
    constructor <;> rintro ⟨k, hk⟩ <;> exact ⟨k, by first | rwa [← key k x h0] | rwa [key k x h0]⟩
  by_cases hc : ∃ k, (iter f k x).isSome
  · obtain ⟨k, hk⟩ := hc
    cases hv : iter f k x with
    | none => rw [hv] at hk; cases hk
    | some b => rw [loop_of hv, loop_of ((key k x h0) ▸ hv)]
  · have hc' : ¬ ∃ k, (iter g k x).isSome := fun h => hc (hex.2 h)
    unfold loop
    rw [dif_neg hc, dif_neg hc']
theorem loop_ext {α β : Type} {f g : α → Option (α ⊕ β)} (h : ∀ x, f x = g x) (x : α) : loop f x = loop g x := by rw [funext h]
def pIn (x a b : Int) : Bool := decide (x ≥ a) && decide (x ≤ b)
theorem inT (x a b : Int) : impl_in x a b = some (pIn x a b) := by
  unfold impl_in pIn
  cases decide (x ≥ a) <;> rfl
theorem inS (x a b : Int) : spec_l1In x a b = some (pIn x a b) := inT x a b
def pVec (v : Vec) : Bool := pIn v.1 1 99 && (pIn v.2.1 0 100000 && (pIn v.2.2.1 0 10 && (pIn v.2.2.2.1 1 99 && pIn v.2.2.2.2 0 7)))
theorem vecT (v : Vec) : impl_VecOk v = some (pVec v) := by
  unfold impl_VecOk pVec
  simp only [inT, Option.bind_some]
  cases pIn v.1 1 99 <;> cases pIn v.2.1 0 100000 <;> cases pIn v.2.2.1 0 10 <;> cases pIn v.2.2.2.1 1 99 <;> rfl
theorem vecS : spec_VecOk = impl_VecOk := rfl
def pPt (p : Pt) : Bool := pIn p.2.1 1 1000 && (!(p.2.2.1 && !p.1) && (cond p.2.2.1 (pVec p.2.2.2) (p.2.2.2.1 == 0 && (p.2.2.2.2.1 == 0 && (p.2.2.2.2.2.1 == 0 && (p.2.2.2.2.2.2.1 == 0 && (p.2.2.2.2.2.2.2 == 0)))))))
theorem ptT (p : Pt) : impl_PtOk p = some (pPt p) := by
  obtain ⟨up, cost, heard, v⟩ := p
  unfold impl_PtOk pPt
  simp only [inT, vecT, Option.bind_some]
  cases pIn cost 1 1000 <;> cases up <;> cases heard <;> rfl
theorem ptS (p : Pt) : spec_PtOk p = some (pPt p) := by
  obtain ⟨up, cost, heard, v⟩ := p
  unfold spec_PtOk pPt
  simp only [inS, vecS, vecT, Option.bind_some]
  cases pIn cost 1 1000 <;> cases up <;> cases heard <;> rfl
/-! ### a loop that asks of each -/
theorem all_loop {n : Nat} {c : Int → Option Bool} {b : Nat → Bool} (hn : n < 9223372036854775807) (hc : ∀ k, k < n → c (k : Int) = some (b k)) :
    loop (fun i : Int => cond (decide (i < (n : Int))) ((c i).bind fun t => cond t (some (.inr (.inr false))) (some (.inl (w64 (i + 1))))) (some (.inr (.inl ())))) 0 = some (cond ((List.range n).any b) (Sum.inr false) (Sum.inl ()) : Unit ⊕ Bool) := by
  obtain ⟨v, h1, h2⟩ := loop_inv (β := Unit ⊕ Bool) (step := fun i : Int => cond (decide (i < (n : Int))) ((c i).bind fun t => cond t (some (.inr (.inr false))) (some (.inl (w64 (i + 1))))) (some (.inr (.inl ()))))
    (fun k i => i = (k : Int) ∧ (List.range k).any b = false) n (fun v => v = cond ((List.range n).any b) (Sum.inr false) (Sum.inl ()))
    (fun k i hk ⟨e, ha⟩ => by
      subst e
      have hs : (cond (decide ((k : Int) < (n : Int))) ((c (k : Int)).bind fun t => cond t (some (.inr (.inr false))) (some (.inl (w64 ((k : Int) + 1))))) (some (.inr (.inl ()))) : Option (Int ⊕ (Unit ⊕ Bool))) = cond (b k) (some (.inr (.inr false))) (some (.inl ((k + 1 : Nat) : Int))) := by
        rw [dlt (by omega), cond_true, hc k hk, Option.bind_some, w64_nat (by omega)]
      cases hb : b k with
      | true =>
        refine .inr ⟨.inr false, by rw [hs, hb]; rfl, ?_⟩
        have : (List.range n).any b = true := List.any_eq_true.2 ⟨k, List.mem_range.2 hk, hb⟩
        rw [this]; rfl
      | false =>
        refine .inl ⟨_, by rw [hs, hb]; rfl, rfl, ?_⟩
        rw [List.range_succ, List.any_append, ha]; simp [hb])
    (fun i ⟨e, ha⟩ => by
      subst e
      exact ⟨.inl (), by rw [dnlt (by omega), cond_false], by rw [ha]; rfl⟩) (x := 0) ⟨rfl, rfl⟩
  rw [h1, h2]
/-! ### the table of addresses -/
def pFent (e : Fent) : Bool := pIn e.1 1 99 && (pIn e.2.1 1 9999 && (pIn e.2.2.1 0 7 && (pIn e.2.2.2.1 0 4 && (!e.2.2.2.2 || e.2.2.2.1 == 0))))
theorem fentT (e : Fent) : impl_fentOk e = some (pFent e) := by
  unfold impl_fentOk pFent
  simp only [inT, Option.bind_some]
  cases pIn e.1 1 99 <;> cases pIn e.2.1 1 9999 <;> cases pIn e.2.2.1 0 7 <;> cases pIn e.2.2.2.1 0 4 <;> cases e.2.2.2.2 <;> rfl
theorem fentS : spec_l8Ent = impl_fentOk := rfl
def pBehind (e : Fent) (tag mac : Int) : Bool := decide (e.1 > tag) || (e.1 == tag && decide (e.2.1 > mac))
theorem behindT (e : Fent) (tag mac : Int) : impl_behind e tag mac = some (pBehind e tag mac) := by
  unfold impl_behind pBehind
  cases decide (e.1 > tag) <;> cases (e.1 == tag) <;> rfl
theorem aheadS (p e : Fent) : spec_l8Ahead p e.1 e.2.1 = some (pBehind e p.1 p.2.1) := by
  unfold spec_l8Ahead pBehind
  by_cases h : p.1 = e.1
  · simp [h]
  · have h' : ¬ e.1 = p.1 := fun k => h k.symm
    have e1 : (p.1 != e.1) = true := by simpa using h
    have e2 : (e.1 == p.1) = false := by simpa using h'
    rw [e1, e2, cond_true, Bool.false_and, Bool.or_false]
def bFent (l : List Fent) (k : Nat) : Bool := match l[k]? with
  | some e => !(pFent e) || (decide (0 < k) && (match l[k - 1]? with | some p => !(pBehind e p.1 p.2.1) | none => false))
  | none => false
def pFdb (l : List Fent) : Bool := !((List.range l.length).any (bFent l)) && decide ((l.length : Int) ≤ 12)
theorem prev_at {α : Type} {l : List α} {k : Nat} (h : k < l.length) (hk : 0 < k) (hn : l.length < 9223372036854775807) : at? l (w64 ((k : Int) - 1)) = some l[k - 1] := by
  rw [w64_id (by omega) (by omega), show (k : Int) - 1 = ((k - 1 : Nat) : Int) by omega, at_nat (by omega)]
theorem fdbT {l : List Fent} (hn : l.length < 9223372036854775807) : impl_FdbOk l = some (pFdb l) := by
  unfold impl_FdbOk pFdb
  have h := all_loop (n := l.length) (c := fun i => (at? l i).bind fun x10 => (impl_fentOk x10).bind fun t13 => (cond (!t13) (some true) ((cond (decide (i > 0)) ((at? l (w64 (i - 1))).bind fun x23 => (at? l (w64 (i - 1))).bind fun x29 => (impl_behind x10 x23.1 x29.2.1).bind fun t32 => some (!t32)) (some false)).bind fun t34 => some t34)).bind fun t => some t) (b := bFent l) hn (fun k hk => by
    simp only [at_nat hk, Option.bind_some, fentT, bFent, List.getElem?_eq_getElem hk]
    cases pFent l[k] with
    | false => rfl
    | true =>
      by_cases h0 : 0 < k
      · have hd : decide ((k : Int) > 0) = true := decide_eq_true (by omega)
        simp only [hd, prev_at hk h0 hn, Option.bind_some, behindT, decide_eq_true h0, List.getElem?_eq_getElem (show k - 1 < l.length by omega)]
        rfl
      · have hd : decide ((k : Int) > 0) = false := decide_eq_false (by omega)
        simp only [hd, decide_eq_false h0]
        rfl)
  have e : (loop (fun z => impl_FdbOk_l0 l z) 0) = some (cond ((List.range l.length).any (bFent l)) (Sum.inr false) (Sum.inl ())) := by
    rw [← h]
    refine loop_ext (fun i => ?_) 0
    unfold impl_FdbOk_l0
    simp only [Option.bind_assoc, Option.bind_some]
  rw [e, Option.bind_some]
  cases (List.range l.length).any (bFent l) <;> rfl
theorem fdbS {l : List Fent} (hn : l.length < 9223372036854775807) : spec_FdbOk l = some (pFdb l) := by
  unfold spec_FdbOk pFdb
  have h := all_loop (n := l.length) (c := fun i => (at? l i).bind fun x12 => (spec_l8Ent x12).bind fun t14 => (cond (!t14) (some true) ((cond (decide (i > 0)) ((at? l (w64 (i - 1))).bind fun x23 => (at? l i).bind fun x27 => (at? l i).bind fun x32 => (spec_l8Ahead x23 x27.1 x32.2.1).bind fun t35 => some (!t35)) (some false)).bind fun t37 => some t37)).bind fun t => some t) (b := bFent l) hn (fun k hk => by
    simp only [at_nat hk, Option.bind_some, fentS, fentT, bFent, List.getElem?_eq_getElem hk]
    cases pFent l[k] with
    | false => rfl
    | true =>
      by_cases h0 : 0 < k
      · have hd : decide ((k : Int) > 0) = true := decide_eq_true (by omega)
        simp only [hd, prev_at hk h0 hn, Option.bind_some, aheadS, decide_eq_true h0, List.getElem?_eq_getElem (show k - 1 < l.length by omega)]
        rfl
      · have hd : decide ((k : Int) > 0) = false := decide_eq_false (by omega)
        simp only [hd, decide_eq_false h0]
        rfl)
  have e : (loop (fun z => spec_FdbOk_l0 l z) 0) = some (cond ((List.range l.length).any (bFent l)) (Sum.inr false) (Sum.inl ())) := by
    rw [← h]
    refine loop_ext (fun i => ?_) 0
    unfold spec_FdbOk_l0
    simp only [Option.bind_assoc, Option.bind_some]
  rw [e, Option.bind_some]
  cases (List.range l.length).any (bFent l) <;> rfl
end Go.V.W
