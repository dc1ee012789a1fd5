/- The law FnExactRolesText: part of the proof that for every input it returns true. No condition. -/
import Derived.KernelRfl
import Derived.Test.YtpfjdhdmkacnbaaFnExactRolesText
import Derived.Test.YtpfjdhdmkacnbaaV4
namespace Go.V.W
set_option linter.unusedVariables false
set_option linter.unusedSimpArgs false
set_option linter.unusedVariables false
abbrev M : Nat := 1048576
abbrev In (left : Int) : Prop := 0 ≤ left ∧ left ≤ 1048576
theorem In.next {left r : Int} (h : In left) (h1 : 0 ≤ r) (h2 : r ≤ left) : In r := ⟨h1, by have := h.2; omega⟩
theorem le32 {n : Nat} (h : n ≤ M) : n ≤ 4294967295 := Nat.le_trans h (by decide)
theorem szIntS {a : List Int} {left : Int} (hl : In left) (h : a.length ≤ maxLen) : Room left (laws_szIntS a left) (a.length ≤ M) := room_slice hl h
theorem szPtS {a : List Pt} {left : Int} (hl : In left) (h : a.length ≤ maxLen) : Room left (laws_szPtS a left) (a.length ≤ M) := room_slice hl h
theorem szFentS {a : List Fent} {left : Int} (hl : In left) (h : a.length ≤ maxLen) : Room left (laws_szFentS a left) (a.length ≤ M) := room_slice hl h
theorem szVrowS {a : List Vrow} {left : Int} (hl : In left) (h : a.length ≤ maxLen) : Room left (laws_szVrowS a left) (a.length ≤ M) := room_slice hl h
theorem szVtab {a : Vtab} {left : Int} (hl : In left) (h : a.1.length ≤ maxLen ∧ a.2.length ≤ maxLen) : Room left (laws_szVtab a left) (a.1.length ≤ M ∧ a.2.length ≤ M ∧ True) :=
  room_bind (szVrowS hl h.1) fun r h1 h2 => room_bind (szIntS (hl.next h1 h2) h.2) fun r h1 h2 => room_some h1
def BLe (n : Nat) (b : Bridge) : Prop := b.2.1.length ≤ n ∧ b.2.2.1.length ≤ n ∧ b.2.2.2.1.length ≤ n ∧ b.2.2.2.2.1.length ≤ n ∧ b.2.2.2.2.2.1.length ≤ n
theorem szBridge {b : Bridge} {left : Int} (hl : In left) (h : BLe maxLen b) : Room left (laws_szBridge b left) (BLe M b) := by
  obtain ⟨h1, h2, h3, h4, h5⟩ := h
  refine room_imp (room_let hl h1 fun r k1 k2 => room_bind (szPtS (hl.next k1 k2) h2) fun r' k3 k4 => room_bind (szFentS ((hl.next k1 k2).next k3 k4) h3) fun r'' k5 k6 => room_bind (szVtab (a := (b.2.2.2.2.1, b.2.2.2.2.2.1)) (((hl.next k1 k2).next k3 k4).next k5 k6) ⟨h4, h5⟩) fun r3 k7 k8 => room_some k7) ?_
  rintro ⟨a1, a2, a3, ⟨a4, a5, _⟩, _⟩
  exact ⟨a1, a2, a3, a4, a5⟩
theorem toIntS {a : List Int} (h : a.length ≤ M) : laws_toIntS a = some a := toS_of (le32 h) (to_loop' (le32 h) 0)
theorem toPtS {a : List Pt} (h : a.length ≤ M) : laws_toPtS a = some a := toS_of (le32 h) (to_loop (f := laws_toPt) (fun _ _ => rfl) (le32 h) _)
theorem toFentS {a : List Fent} (h : a.length ≤ M) : laws_toFentS a = some a := toS_of (le32 h) (to_loop (f := laws_toFent) (fun _ _ => rfl) (le32 h) _)
theorem toVrowS {a : List Vrow} (h : a.length ≤ M) : laws_toVrowS a = some a := toS_of (le32 h) (to_loop (f := laws_toVrow) (fun _ _ => rfl) (le32 h) _)
theorem toVtab {a : Vtab} (h : a.1.length ≤ M ∧ a.2.length ≤ M) : laws_toVtab a = some a := by
  unfold laws_toVtab
  rw [toVrowS h.1, Option.bind_some, toIntS h.2, Option.bind_some]
theorem toBridge {b : Bridge} (h : BLe M b) : laws_toBridge b = some b := by
  obtain ⟨h1, h2, h3, h4, h5⟩ := h
  unfold laws_toBridge
  rw [toPtS h2, Option.bind_some, toFentS h3, Option.bind_some, toVtab ⟨h4, h5⟩, Option.bind_some]
theorem eqVec (v : Vec) : laws_eqVec v v = some true := by unfold laws_eqVec; simp
theorem eqPt (v : Pt) : laws_eqPt v v = some true := by unfold laws_eqPt; simp [eqVec]
theorem eqFent (v : Fent) : laws_eqFent v v = some true := by unfold laws_eqFent; simp
theorem eqVrow (v : Vrow) : laws_eqVrow v v = some true := by unfold laws_eqVrow; simp
theorem eqIntS {a : List Int} (h : a.length ≤ M) : laws_eqIntS a a = some true := eqS_of (eq_loop' (le32 h))
theorem eqPtS {a : List Pt} (h : a.length ≤ M) : laws_eqPtS a a = some true := eqS_of (eq_loop (g := laws_eqPt) (fun x _ => eqPt x) (le32 h))
theorem eqFentS {a : List Fent} (h : a.length ≤ M) : laws_eqFentS a a = some true := eqS_of (eq_loop (g := laws_eqFent) (fun x _ => eqFent x) (le32 h))
theorem eqVrowS {a : List Vrow} (h : a.length ≤ M) : laws_eqVrowS a a = some true := eqS_of (eq_loop (g := laws_eqVrow) (fun x _ => eqVrow x) (le32 h))
theorem eqVtab {a : Vtab} (h : a.1.length ≤ M ∧ a.2.length ≤ M) : laws_eqVtab a a = some true := by
  unfold laws_eqVtab; simp [eqVrowS h.1, eqIntS h.2]
theorem eqBridge {b : Bridge} (h : BLe M b) : laws_eqBridge b b = some true := by
  obtain ⟨h1, h2, h3, h4, h5⟩ := h
  unfold laws_eqBridge
  simp [eqPtS h2, eqFentS h3, eqVtab (a := (b.2.2.2.2.1, b.2.2.2.2.2.1)) ⟨h4, h5⟩]
set_option linter.unusedVariables false
set_option linter.unusedSimpArgs false
theorem loop_ext {α β : Type} {f g : α → Option (α ⊕ β)} (h : ∀ x, f x = g x) (x : α) : loop f x = loop g x := by rw [funext h]
def pIn (x a b : Int) : Bool := decide (x ≥ a) && decide (x ≤ b)
theorem inT (x a b : Int) : impl_in x a b = some (pIn x a b) := by
  unfold impl_in pIn
  cases decide (x ≥ a) <;> rfl
def pVec (v : Vec) : Bool := pIn v.1 1 99 && (pIn v.2.1 0 100000 && (pIn v.2.2.1 0 10 && (pIn v.2.2.2.1 1 99 && pIn v.2.2.2.2 0 7)))
theorem vecT (v : Vec) : impl_VecOk v = some (pVec v) := by
  unfold impl_VecOk pVec
  simp only [inT, Option.bind_some]
  cases pIn v.1 1 99 <;> cases pIn v.2.1 0 100000 <;> cases pIn v.2.2.1 0 10 <;> cases pIn v.2.2.2.1 1 99 <;> rfl
set_option linter.unusedVariables false
set_option linter.unusedSimpArgs false
set_option linter.unusedVariables false
set_option linter.unusedSimpArgs false
theorem lessS : spec_LessVec = impl_LessVec := rfl
theorem lessT (a b : Vec) : ∃ r, impl_LessVec a b = some r := by
  unfold impl_LessVec
  cases (a.1 != b.1) <;> cases (a.2.1 != b.2.1) <;> cases (a.2.2.2.1 != b.2.2.2.1) <;> exact ⟨_, rfl⟩
theorem stepS : spec_StepVec = impl_StepVec := rfl
theorem stepT (v : Vec) (c : Int) : ∃ r, impl_StepVec v c = some r := by
  unfold impl_StepVec
  simp only [vecT, inT, Option.bind_some]
  cases pVec v <;> cases pIn c 1 1000 <;> first | exact ⟨_, rfl⟩ | skip
  generalize pVec (v.1, w64 (v.2.1 + c), w64 (v.2.2.1 + 1), v.2.2.2.1, v.2.2.2.2) = q
  cases q <;> exact ⟨_, rfl⟩
theorem bestL (p0 : Int) (l : List Pt) (t8 t9 b0 b1 b2 b3 b4 c0 c1 c2 c3 c4 : Int) : spec_BestVec_l0 p0 l t8 t9 b0 b1 b2 b3 b4 c0 c1 c2 c3 c4 = impl_BestVec_l0 p0 l t8 t9 b0 b1 b2 b3 b4 c0 c1 c2 c3 c4 := by
  unfold spec_BestVec_l0 impl_BestVec_l0
  rw [stepS, lessS]
  cases h : at? l t9 with
  | none => rfl
  | some x => simp only [Option.bind_some]
theorem bestS : spec_BestVec = impl_BestVec := by
  funext p0 l
  unfold spec_BestVec impl_BestVec
  rw [loop_ext (fun z => bestL p0 l _ _ _ _ _ _ _ _ _ _ _ _)]
theorem bestT (p0 : Int) {l : List Pt} (hn : l.length < 9223372036854775807) : ∃ r, impl_BestVec p0 l = some r := by
  unfold impl_BestVec
  obtain ⟨b, h1, _⟩ := loop_inv (step := fun z : Int × Int × Int × Int × Int × Int × Int × Int × Int × Int × Int × Int => impl_BestVec_l0 p0 l z.1 z.2.1 z.2.2.1 z.2.2.2.1 z.2.2.2.2.1 z.2.2.2.2.2.1 z.2.2.2.2.2.2.1 z.2.2.2.2.2.2.2.1 z.2.2.2.2.2.2.2.2.1 z.2.2.2.2.2.2.2.2.2.1 z.2.2.2.2.2.2.2.2.2.2.1 z.2.2.2.2.2.2.2.2.2.2.2)
    (fun k z => z.2.1 = (k : Int)) l.length (fun _ => True)
    (fun k z hk h => by
      left
      obtain ⟨t7, t18, b0, b1, b2, b3, b4, c0, c1, c2, c3, c4⟩ := z
      obtain rfl : t18 = (k : Int) := h
      unfold impl_BestVec_l0
      simp only [dlt (show (k : Int) < (l.length : Int) by omega), cond_true, at_nat hk, Option.bind_some]
      rw [show w64 ((k : Int) + 1) = ((k + 1 : Nat) : Int) from w64_nat (by omega)]
      generalize l[k] = x
      have e : (cond (!x.1) (some true) (some (!x.2.2.1)) : Option Bool) = some (cond (!x.1) true (!x.2.2.1)) := by cases x.1 <;> rfl
      rw [e, Option.bind_some]
      cases (cond (!x.1) true (!x.2.2.1)) with
      | true => exact ⟨_, rfl, rfl⟩
      | false =>
        obtain ⟨r, hr⟩ := stepT x.2.2.2 x.2.1
        obtain ⟨q, hq⟩ := lessT r.1 (c0, c1, c2, c3, c4)
        rw [cond_false, hr, Option.bind_some, hq]
        cases r.2 <;> cases decide (r.1.1 < p0) <;> cases decide (t7 < 0) <;> cases q <;> exact ⟨_, rfl, rfl⟩)
    (fun z h => by
      obtain ⟨t7, t18, b0, b1, b2, b3, b4, c0, c1, c2, c3, c4⟩ := z
      obtain rfl : t18 = (l.length : Int) := h
      unfold impl_BestVec_l0
      simp only [dnlt (show ¬ (l.length : Int) < (l.length : Int) by omega), cond_false]
      exact ⟨_, rfl, trivial⟩) (x := ((-1), 0, p0, 0, 0, p0, 0, 0, 0, 0, 0, 0)) rfl
  rw [h1, Option.bind_some]
  exact ⟨_, rfl⟩
theorem sayS : spec_SayVec = impl_SayVec := by
  funext id l p
  unfold spec_SayVec impl_SayVec
  rw [bestS]
theorem roleS : spec_RoleOf = impl_RoleOf := by
  funext id l p
  unfold spec_RoleOf impl_RoleOf
  rw [bestS, sayS, lessS]
  rfl
theorem roleT (id : Int) {l : List Pt} (hn : l.length < 9223372036854775807) (p : Int) : ∃ r, impl_RoleOf id l p = some r := by
  obtain ⟨v, hv⟩ := bestT id hn
  unfold impl_RoleOf impl_SayVec
  simp only [inT, Option.bind_some, hv]
  rw [show w64 ((l.length : Int) - 1) = (l.length : Int) - 1 from w64_id (by omega) (by omega)]
  cases hp : pIn p 0 ((l.length : Int) - 1) with
  | false => exact ⟨_, rfl⟩
  | true =>
    unfold pIn at hp
    simp only [Bool.and_eq_true, decide_eq_true_eq] at hp
    obtain ⟨k, rfl⟩ : ∃ k : Nat, p = (k : Int) := ⟨p.toNat, by omega⟩
    simp only [at_nat (show k < l.length by omega), Option.bind_some]
    generalize l[k]'(by omega) = x
    obtain ⟨q, hq⟩ := lessT (v.1.1, v.1.2.1, v.1.2.2.1, v.1.2.2.2.1, (k : Int)) x.2.2.2
    rw [hq]
    cases x.1 <;> cases (v.2 == (k : Int)) <;> cases x.2.2.1 <;> cases q <;> exact ⟨_, rfl⟩
set_option linter.unusedVariables false
set_option linter.unusedSimpArgs false
set_option linter.unusedVariables false
set_option linter.unusedSimpArgs false
theorem app_big {α : Type} {xs ys : List α} (h : xs.length + ys.length ≤ 4294967296) : app xs ys = some (xs ++ ys) := by
  unfold app
  rw [if_pos (show xs.length + ys.length ≤ maxN from h)]
noncomputable def roleV (id : Int) (l : List Pt) (p : Int) : Int := (impl_RoleOf id l p).getD 0
theorem roleV_eq (id : Int) {l : List Pt} (hn : l.length < 9223372036854775807) (p : Int) : impl_RoleOf id l p = some (roleV id l p) := by
  obtain ⟨r, hr⟩ := roleT id hn p
  unfold roleV; rw [hr]; rfl
set_option linter.unusedVariables false
set_option linter.unusedSimpArgs false
theorem joinTail_append (sep : List UInt8) (r : List (List UInt8)) (x : List UInt8) : Lib.joinTail sep (r ++ [x]) = Lib.joinTail sep r ++ (sep ++ x) := by
  simp [Lib.joinTail]
theorem join_snoc {xs : List (List UInt8)} (x sep : List UInt8) (h : xs ≠ []) : Lib.join (xs ++ [x]) sep = Lib.join xs sep ++ sep ++ x := by
  cases xs with
  | nil => exact absurd rfl h
  | cons a r => rw [List.cons_append, Lib.join_cons, Lib.join_cons, joinTail_append, List.append_assoc, List.append_assoc]
theorem joinTail_len {sep : List UInt8} {m : Nat} (hs : sep.length ≤ 1) : ∀ {r : List (List UInt8)}, (∀ x ∈ r, x.length ≤ m) → (Lib.joinTail sep r).length ≤ r.length * (m + 1)
  | [], _ => by simp [Lib.joinTail]
  | x :: r, h => by
    have h1 := h x (by simp)
    have h2 := joinTail_len hs (r := r) fun y hy => h y (by simp [hy])
    have e : (Lib.joinTail sep (x :: r)).length = (sep.length + x.length) + (Lib.joinTail sep r).length := by simp [Lib.joinTail, Nat.add_assoc]
    rw [e, List.length_cons, Nat.add_mul]
    omega
theorem join_len {sep : List UInt8} {m : Nat} (hs : sep.length ≤ 1) {xs : List (List UInt8)} (h : ∀ x ∈ xs, x.length ≤ m) : (Lib.join xs sep).length ≤ xs.length * (m + 1) := by
  cases xs with
  | nil => simp [Lib.join_nil]
  | cons x r =>
    rw [Lib.join_cons, List.length_append, List.length_cons, Nat.add_mul]
    have h1 := h x (by simp)
    have h2 := joinTail_len hs (r := r) fun y hy => h y (by simp [hy])
    omega
theorem joinT {xs : List (List UInt8)} {sep : List UInt8} {m : Nat} (hs : sep.length ≤ 1) (h : ∀ x ∈ xs, x.length ≤ m) (hl : xs.length ≤ 1048576) (hm : m ≤ 1000000) : libJoin xs sep = some (Lib.join xs sep) := by
  have h1 := join_len hs h
  have h2 : xs.length * (m + 1) ≤ 1048576 * 1000001 := Nat.mul_le_mul hl (by omega)
  unfold libJoin
  rw [decide_eq_true (by omega), decide_eq_true (by omega)]; rfl
theorem catT {a b : List UInt8} (h : a.length + b.length ≤ 4294967296) : cat a b = some (a ++ b) := by
  unfold cat maxN
  rw [if_pos h]

set_option linter.unusedVariables false
set_option linter.unusedSimpArgs false
def wd (v : Int) : List UInt8 := cond (v == 1) [114, 111, 111, 116] (cond (v == 2) [116, 111, 108, 100] (cond (v == 3) [105, 100, 108, 101] [100, 111, 119, 110]))
theorem wd_len (v : Int) : (wd v).length = 4 := by
  unfold wd
  cases v == 1 <;> cases v == 2 <;> cases v == 3 <;> rfl
noncomputable def rolW (b : Bridge) (n : Nat) : List (List UInt8) := (List.range n).map fun k : Nat => wd (roleV b.1 b.2.2.1 (k : Int))
noncomputable def rolX (b : Bridge) : List UInt8 := Lib.join (rolW b b.2.2.1.length) [32]
theorem rolW_succ (b : Bridge) (k : Nat) : rolW b (k + 1) = rolW b k ++ [wd (roleV b.1 b.2.2.1 (k : Int))] := by
  unfold rolW; rw [List.range_succ, List.map_append]; rfl
theorem rolW_len (b : Bridge) (k : Nat) : (rolW b k).length = k := by simp [rolW]
theorem rolW_in {b : Bridge} {k : Nat} : ∀ x ∈ rolW b k, x.length ≤ 4 := by
  intro x hx
  obtain ⟨j, _, rfl⟩ := List.mem_map.1 hx
  rw [wd_len]; exact Nat.le_refl _
theorem wd_ix {v : Int} (h : 1 ≤ v ∧ v ≤ 4) {A : Type} (f : List UInt8 → Option A) :
    ((ix ([[114, 111, 111, 116], [116, 111, 108, 100], [105, 100, 108, 101], [100, 111, 119, 110]] : List (List UInt8)).length (w64 (v - 1))).bind fun j => (([[114, 111, 111, 116], [116, 111, 108, 100], [105, 100, 108, 101], [100, 111, 119, 110]] : List (List UInt8))[j]?).bind f) = f (wd v) := by
  obtain rfl | rfl | rfl | rfl : v = 1 ∨ v = 2 ∨ v = 3 ∨ v = 4 := by omega
  · rfl
  · rfl
  · rfl
  · rfl
theorem roleRange {id : Int} {l : List Pt} {p v : Int} (h : impl_RoleOf id l p = some v) : 1 ≤ v ∧ v ≤ 4 := by
  unfold impl_RoleOf at h
  rw [inT, Option.bind_some] at h
  have key : ∀ (o : Option Bool) (f : Bool → Option Int), (∀ t x, f t = some x → 1 ≤ x ∧ x ≤ 4) → o.bind f = some v → 1 ≤ v ∧ v ≤ 4 := by
    intro o f hf h
    cases o with
    | none => cases h
    | some t => exact hf t v h
  refine key _ _ (fun t x hx => ?_) h
  cases t with
  | true => cases hx; decide
  | false =>
    rw [cond_false] at hx
    cases hbv : impl_BestVec id l with
    | none => rw [hbv] at hx; cases hx
    | some w =>
      rw [hbv, Option.bind_some] at hx
      cases hw : w.2 == p with
      | true => rw [hw] at hx; cases hx; decide
      | false =>
        rw [hw, cond_false] at hx
        cases ha : at? l p with
        | none => rw [ha] at hx; cases hx
        | some y =>
          rw [ha, Option.bind_some] at hx
          revert hx
          generalize (cond (!y.2.2.1) _ _ : Option Bool) = o
          intro hx
          cases o with
          | none => cases hx
          | some t => cases t <;> (cases hx; decide)
theorem roleIn (id : Int) {l : List Pt} (hn : l.length < 9223372036854775807) (p : Int) : 1 ≤ roleV id l p ∧ roleV id l p ≤ 4 := roleRange (roleV_eq id hn p)
theorem rolesT {b : Bridge} (h : b.2.2.1.length ≤ M) : impl_RolesText b = some (rolX b) := by
  have h' : b.2.2.1.length ≤ 1048576 := h
  unfold impl_RolesText
  obtain ⟨d, d1, rfl⟩ := loop_inv (step := fun z : Int × List (List UInt8) => impl_RolesText_l0 b z.1 z.2) (fun k z => z = ((k : Int), rolW b k)) b.2.2.1.length (fun d => d = rolW b b.2.2.1.length)
    (fun k z hk hz => by
      subst hz
      refine .inl ⟨_, ?_, rfl⟩
      show impl_RolesText_l0 b (k : Int) (rolW b k) = _
      unfold impl_RolesText_l0
      rw [dlt (by omega), cond_true, roleV_eq _ (by omega), Option.bind_some, wd_ix (roleIn _ (by omega) _), app_big (by rw [rolW_len, List.length_singleton]; omega), Option.bind_some, w64_nat (by omega), rolW_succ])
    (fun z hz => by
      subst hz
      refine ⟨_, ?_, rfl⟩
      show impl_RolesText_l0 b (b.2.2.1.length : Int) _ = _
      unfold impl_RolesText_l0
      rw [dnlt (by omega), cond_false])
    (x := (0, [])) (by simp [rolW])
  rw [d1, Option.bind_some, joinT (m := 4) (by simp) rolW_in (by rw [rolW_len]; exact h') (by omega), Option.bind_some]
  rfl
theorem rolesS {b : Bridge} (h : b.2.2.1.length ≤ M) : spec_RolesText b = some (rolX b) := by
  have h' : b.2.2.1.length ≤ 1048576 := h
  unfold spec_RolesText
  obtain ⟨d, d1, rfl⟩ := loop_inv (step := fun z : List UInt8 × Int => spec_RolesText_l0 b z.1 z.2) (fun k z => z = (Lib.join (rolW b k) [32], (k : Int))) b.2.2.1.length (fun d => d = rolX b)
    (fun k z hk hz => by
      subst hz
      refine .inl ⟨(Lib.join (rolW b (k + 1)) [32], ((k + 1 : Nat) : Int)), ?_, rfl⟩
      have hl := join_len (sep := [32]) (m := 4) (xs := rolW b k) (by simp) rolW_in
      rw [rolW_len] at hl
      have hw := wd_len (roleV b.1 b.2.2.1 (k : Int))
      have hlt : k < 1048576 := by omega
      have key : ∀ (s : List UInt8), s.length ≤ 100000000 → (cond (roleV b.1 b.2.2.1 (k : Int) == 1) ((cat s [114, 111, 111, 116]).bind fun t => some (Sum.inl (t, w64 ((k : Int) + 1)))) (cond (roleV b.1 b.2.2.1 (k : Int) == 2) ((cat s [116, 111, 108, 100]).bind fun t => some (Sum.inl (t, w64 ((k : Int) + 1))))
          (cond (roleV b.1 b.2.2.1 (k : Int) == 3) ((cat s [105, 100, 108, 101]).bind fun t => some (Sum.inl (t, w64 ((k : Int) + 1)))) ((cat s [100, 111, 119, 110]).bind fun t => some (Sum.inl (t, w64 ((k : Int) + 1)))))) : Option ((List UInt8 × Int) ⊕ List UInt8)) = some (.inl (s ++ wd (roleV b.1 b.2.2.1 (k : Int)), ((k + 1 : Nat) : Int))) := by
        intro s hs
        unfold wd
        rw [w64_nat (by omega)]
        cases roleV b.1 b.2.2.1 (k : Int) == 1 with
        | true => rw [cond_true, cond_true, catT (by simp; omega)]; rfl
        | false =>
          cases roleV b.1 b.2.2.1 (k : Int) == 2 with
          | true => simp only [cond_false, cond_true]; rw [catT (by simp; omega)]; rfl
          | false =>
            cases roleV b.1 b.2.2.1 (k : Int) == 3 with
            | true => simp only [cond_false, cond_true]; rw [catT (by simp; omega)]; rfl
            | false => simp only [cond_false]; rw [catT (by simp; omega)]; rfl
      show spec_RolesText_l0 b (Lib.join (rolW b k) [32]) (k : Int) = _
      unfold spec_RolesText_l0
      rw [dlt (by omega), cond_true, roleS, roleV_eq _ (by omega)]
      simp only [Option.bind_some]
      cases k with
      | zero =>
        rw [decide_eq_false (show ¬ ((0 : Nat) : Int) > 0 by omega), cond_false, key _ (by simp [rolW, Lib.join_nil]), rolW_succ]
        simp [rolW, Lib.join_nil, Lib.join_one]
      | succ k =>
        have hne : rolW b (k + 1) ≠ [] := by
          intro e
          have := congrArg List.length e
          rw [rolW_len, List.length_nil] at this; omega
        rw [decide_eq_true (show ((k + 1 : Nat) : Int) > 0 by omega), cond_true, catT (by rw [List.length_singleton]; omega), Option.bind_some, key _ (by rw [List.length_append, List.length_singleton]; omega), rolW_succ b (k + 1), join_snoc _ _ hne])
    (fun z hz => by
      subst hz
      refine ⟨rolX b, ?_, rfl⟩
      show spec_RolesText_l0 b (Lib.join (rolW b b.2.2.1.length) [32]) (b.2.2.1.length : Int) = _
      unfold spec_RolesText_l0
      rw [dnlt (by omega), cond_false]; rfl)
    (x := ([], 0)) (by simp [rolW, Lib.join_nil])
  rw [d1, Option.bind_some]

end Go.V.W

