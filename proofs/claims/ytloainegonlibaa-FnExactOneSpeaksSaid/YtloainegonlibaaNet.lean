/- The law FnExactOneSpeaks: part of the proof that for every input it returns true. No condition. -/
import Derived.Test.YtloainegonlibaaSpeaksB
namespace Go.V.W
set_option linter.unusedVariables false
set_option linter.unusedSimpArgs false
/-! ### nets: room, copies, the same -/
def BsLe (n : Nat) (l : List Bridge) : Prop := l.length ≤ n ∧ ∀ x ∈ l, BLe n x
theorem szBridgeS {l : List Bridge} {left : Int} (hl : In left) (h : BsLe maxLen l) : Room left (laws_szBridgeS l left) (BsLe M l) := by
  have hn : l.length ≤ 9223372036854775807 := h.1
  show Room left (let l1 := w64 (left - (l.length : Int)); cond (decide (l1 < 0)) (some (-1)) ((loop (fun z => laws_szBridgeS_l0 l z.1 z.2) (l1, 0)).bind (Sum.elim (fun d => some d) (fun r => some r)))) _
  by_cases hle : l.length ≤ M
  · exact room_imp (room_let hl h.1 fun r k1 k2 => room_loop (f := laws_szBridge) (Q := BLe M) (fun x hx l' h1 h2 => szBridge ⟨h1, h2⟩ (h.2 x hx)) (le32 hle) (hl.next k1 k2)) fun ⟨a, b⟩ => ⟨a, b⟩
  · refine ⟨-1, ?_, .inl rfl⟩
    show cond (decide (w64 (left - (l.length : Int)) < 0)) _ _ = _
    have : M < l.length := by omega
    have hM : (1048576 : Int) < (l.length : Int) := by have : 1048576 < l.length := this; omega
    have := hl.2
    rw [w64_id (by omega) (by omega), dlt (by omega), cond_true]
theorem szLinkS {a : List Link} {left : Int} (hl : In left) (h : a.length ≤ maxLen) : Room left (laws_szLinkS a left) (a.length ≤ M) := room_slice hl h
theorem szSayS {a : List Say} {left : Int} (hl : In left) (h : a.length ≤ maxLen) : Room left (laws_szSayS a left) (a.length ≤ M) := room_slice hl h
def NLe (m : Nat) (n : Net) : Prop := BsLe m n.1 ∧ n.2.1.length ≤ m ∧ n.2.2.length ≤ m
theorem szNet {n : Net} {left : Int} (hl : In left) (h : NLe maxLen n) : Room left (laws_szNet n left) (NLe M n) :=
  room_imp (room_bind (szBridgeS hl h.1) fun r k1 k2 => room_bind (szLinkS (hl.next k1 k2) h.2.1) fun r' k3 k4 => room_bind (szSayS ((hl.next k1 k2).next k3 k4) h.2.2) fun r'' k5 k6 => room_some k5) fun ⟨a, b, c, _⟩ => ⟨a, b, c⟩
theorem toBridgeS {l : List Bridge} (h : BsLe M l) : laws_toBridgeS l = some l := toS_of (le32 h.1) (to_loop (f := laws_toBridge) (fun x hx => toBridge (h.2 x hx)) (le32 h.1) _)
theorem toLinkS {a : List Link} (h : a.length ≤ M) : laws_toLinkS a = some a := toS_of (le32 h) (to_loop (f := laws_toLink) (fun _ _ => rfl) (le32 h) _)
theorem toSayS {a : List Say} (h : a.length ≤ M) : laws_toSayS a = some a := toS_of (le32 h) (to_loop (f := laws_toSay) (fun _ _ => rfl) (le32 h) _)
theorem toNet {n : Net} (h : NLe M n) : laws_toNet n = some n := by
  unfold laws_toNet
  rw [toBridgeS h.1, Option.bind_some, toLinkS h.2.1, Option.bind_some, toSayS h.2.2, Option.bind_some]
theorem eqLink (v : Link) : laws_eqLink v v = some true := by unfold laws_eqLink; simp
theorem eqSay (v : Say) : laws_eqSay v v = some true := by unfold laws_eqSay; simp [eqVec]
theorem eqBridgeS {l : List Bridge} (h : BsLe M l) : laws_eqBridgeS l l = some true := eqS_of (eq_loop (g := laws_eqBridge) (fun x hx => eqBridge (h.2 x hx)) (le32 h.1))
theorem eqLinkS {a : List Link} (h : a.length ≤ M) : laws_eqLinkS a a = some true := eqS_of (eq_loop (g := laws_eqLink) (fun x _ => eqLink x) (le32 h))
theorem eqSayS {a : List Say} (h : a.length ≤ M) : laws_eqSayS a a = some true := eqS_of (eq_loop (g := laws_eqSay) (fun x _ => eqSay x) (le32 h))
theorem eqNet {n : Net} (h : NLe M n) : laws_eqNet n n = some true := by
  unfold laws_eqNet; simp [eqBridgeS h.1, eqLinkS h.2.1, eqSayS h.2.2]
theorem net_wf {n : Net} (h : Cs.wf cNet n) : NLe maxLen n := by
  simp only [cNet, Cs.wf, CT.wf] at h
  obtain ⟨h1, h2, h3⟩ := h
  refine ⟨⟨h1.1, fun b hb => ?_⟩, h2.1, h3.1⟩
  obtain ⟨_, k1, k2, k3, k4, k5, _⟩ := h1.2 b hb
  exact ⟨k1, k2.1, k3.1, k4.1, k5.1⟩
/-! ### links that are up -/
/-- Lists are as short as lists are. -/
structure NS (n : Net) : Prop where
  b : n.1.length < 9223372036854775807
  l : n.2.1.length ≤ 1048576
  p : ∀ b ∈ n.1, b.2.2.1.length < 9223372036854775807
theorem ns_of {n : Net} (h : NLe M n) : NS n := by
  have hM : M < 9223372036854775807 := by decide
  exact ⟨by have := h.1.1; omega, h.2.1, fun b hb => by have := (h.1.2 b hb).2.1; omega⟩
def portOf (n : Net) (b p : Int) : Option Pt := cond (pIn b 0 ((n.1.length : Int) - 1)) (match at? n.1 b with
  | some x => cond (pIn p 0 ((x.2.2.1.length : Int) - 1)) (at? x.2.2.1 p) none
  | none => none) none
theorem in_at {α : Type} {l : List α} {i : Int} (h : pIn i 0 ((l.length : Int) - 1) = true) : ∃ k : Nat, ∃ hk : k < l.length, i = (k : Int) ∧ at? l i = some l[k] := by
  unfold pIn at h
  simp only [Bool.and_eq_true, decide_eq_true_eq] at h
  obtain ⟨k, rfl⟩ : ∃ k : Nat, i = (k : Int) := ⟨i.toNat, by omega⟩
  exact ⟨k, by omega, rfl, at_nat (by omega)⟩
theorem portT' {n : Net} (h : NS n) (b p : Int) : impl_portAt n b p = some (match portOf n b p with | some x => (x, true) | none => ((false, 0, false, 0, 0, 0, 0, 0), false)) := by
  unfold impl_portAt portOf
  have hb := h.b
  simp only [inT, Option.bind_some]
  rw [w64_id (n := (n.1.length : Int) - 1) (by omega) (by omega)]
  cases h1 : pIn b 0 ((n.1.length : Int) - 1) with
  | false => rfl
  | true =>
    obtain ⟨k, hk, _, e⟩ := in_at h1
    rw [e]
    simp only [Option.bind_some, cond_true, Bool.not_true, cond_false]
    have hp := h.p _ (List.getElem_mem hk)
    rw [w64_id (n := ((n.1[k]).2.2.1.length : Int) - 1) (by omega) (by omega)]
    cases h2 : pIn p 0 (((n.1[k]).2.2.1.length : Int) - 1) with
    | false => rfl
    | true =>
      obtain ⟨j, hj, _, e'⟩ := in_at h2
      simp only [Bool.not_true, cond_false, cond_true, e', Option.bind_some]
theorem upS {n : Net} (h : NS n) (b p : Int) : spec_l13Up n b p = some (match portOf n b p with | some x => x.1 | none => false) := by
  unfold spec_l13Up portOf
  have hb := h.b
  simp only [inS, Option.bind_some]
  rw [w64_id (n := (n.1.length : Int) - 1) (by omega) (by omega)]
  cases h1 : pIn b 0 ((n.1.length : Int) - 1) with
  | false => rfl
  | true =>
    obtain ⟨k, hk, _, e⟩ := in_at h1
    rw [e]
    simp only [Option.bind_some, cond_true]
    have hp := h.p _ (List.getElem_mem hk)
    rw [w64_id (n := ((n.1[k]).2.2.1.length : Int) - 1) (by omega) (by omega)]
    cases h2 : pIn p 0 (((n.1[k]).2.2.1.length : Int) - 1) with
    | false => rfl
    | true =>
      obtain ⟨j, hj, _, e'⟩ := in_at h2
      simp only [cond_true, e', Option.bind_some]
def upOf (o : Option Pt) : Bool := match o with | some x => x.1 | none => false
def linkOn (n : Net) (x : Link) : Bool := upOf (portOf n x.1 x.2.1) && upOf (portOf n x.2.2.1 x.2.2.2)
def pLinkUp (n : Net) (k : Int) : Bool := cond (pIn k 0 ((n.2.1.length : Int) - 1)) (match at? n.2.1 k with | some x => linkOn n x | none => false) false
theorem linkT {n : Net} (h : NS n) (k : Int) : impl_LinkUp n k = some (pLinkUp n k) := by
  unfold impl_LinkUp pLinkUp
  have hl := h.l
  simp only [inT, Option.bind_some]
  rw [w64_id (n := (n.2.1.length : Int) - 1) (by omega) (by omega)]
  cases h1 : pIn k 0 ((n.2.1.length : Int) - 1) with
  | false => rfl
  | true =>
    obtain ⟨j, hj, _, e⟩ := in_at h1
    rw [e]
    simp only [Option.bind_some, cond_true, Bool.not_true, cond_false, portT' h, linkOn]
    generalize portOf n n.2.1[j].1 n.2.1[j].2.1 = a
    generalize portOf n n.2.1[j].2.2.1 n.2.1[j].2.2.2 = b
    cases a with
    | none => cases b <;> rfl
    | some x => cases b with
      | none => cases hx : x.1 <;> simp [upOf, hx]
      | some y => cases hx : x.1 <;> simp [upOf, hx]
theorem linkS {n : Net} (h : NS n) (k : Int) : spec_LinkUp n k = some (pLinkUp n k) := by
  unfold spec_LinkUp pLinkUp
  have hl := h.l
  simp only [inS, Option.bind_some]
  rw [w64_id (n := (n.2.1.length : Int) - 1) (by omega) (by omega)]
  cases h1 : pIn k 0 ((n.2.1.length : Int) - 1) with
  | false => rfl
  | true =>
    obtain ⟨j, hj, _, e⟩ := in_at h1
    rw [e]
    simp only [Option.bind_some, cond_true, Bool.not_true, cond_false, upS h, linkOn]
    generalize portOf n n.2.1[j].1 n.2.1[j].2.1 = a
    generalize portOf n n.2.1[j].2.2.1 n.2.1[j].2.2.2 = b
    cases a with
    | none => rfl
    | some x => cases hx : x.1 <;> cases b <;> simp [upOf, hx]
/-- The links that are up, of the first m. -/
def upTo (n : Net) (m : Nat) : List Int := ((List.range m).filter fun (k : Nat) => pLinkUp n (k : Int)).map fun (k : Nat) => (k : Int)
theorem upTo_le (n : Net) (m : Nat) : (upTo n m).length ≤ m := by
  unfold upTo
  rw [List.length_map]
  exact Nat.le_trans (List.length_filter_le _ _) (by simp)
theorem upTo_succ (n : Net) (m : Nat) : upTo n (m + 1) = cond (pLinkUp n (m : Int)) (upTo n m ++ [(m : Int)]) (upTo n m) := by
  unfold upTo
  rw [List.range_succ, List.filter_append, List.map_append]
  cases h : pLinkUp n (m : Int) <;> simp [h]
theorem app_big {α : Type} {xs ys : List α} (h : xs.length + ys.length ≤ 4294967296) : app xs ys = some (xs ++ ys) := by
  unfold app
  rw [if_pos (show xs.length + ys.length ≤ maxN from h)]
theorem upLinksT {n : Net} (h : NS n) : impl_UpLinks n = some (upTo n n.2.1.length) := by
  unfold impl_UpLinks
  have hl := h.l
  obtain ⟨b, h1, rfl⟩ := loop_inv (step := fun z : Int × List Int => impl_UpLinks_l0 n z.1 z.2) (fun k z => z.1 = (k : Int) ∧ z.2 = upTo n k) n.2.1.length (fun l => l = upTo n n.2.1.length)
    (fun k z hk ⟨e1, e2⟩ => by
      obtain ⟨i, l⟩ := z
      simp only at e1 e2
      subst e1 e2
      left
      have hle := upTo_le n k
      refine ⟨(w64 ((k : Int) + 1), upTo n (k + 1)), ?_, w64_nat (by omega), rfl⟩
      show impl_UpLinks_l0 n (k : Int) (upTo n k) = _
      unfold impl_UpLinks_l0
      rw [dlt (by omega), cond_true, linkT h, Option.bind_some, upTo_succ]
      cases pLinkUp n (k : Int) with
      | false => rfl
      | true => rw [cond_true, app_big (by simp; omega)]; rfl)
    (fun z ⟨e1, e2⟩ => by
      obtain ⟨i, l⟩ := z
      simp only at e1 e2
      subst e1 e2
      refine ⟨_, ?_, rfl⟩
      show impl_UpLinks_l0 n _ _ = _
      unfold impl_UpLinks_l0
      simp only [dnlt (show ¬ (n.2.1.length : Int) < (n.2.1.length : Int) by omega), cond_false]) (x := (0, [])) ⟨rfl, rfl⟩
  rw [h1, Option.bind_some]
/-! ### one speaks -/
noncomputable def roleV (id : Int) (l : List Pt) (p : Int) : Int := (impl_RoleOf id l p).getD 0
theorem roleV_eq (id : Int) {l : List Pt} (hn : l.length < 9223372036854775807) (p : Int) : impl_RoleOf id l p = some (roleV id l p) := by
  obtain ⟨r, hr⟩ := roleT id hn p
  unfold roleV; rw [hr]; rfl
noncomputable def badL (n : Net) (k : Nat) : Bool := match n.2.1[k]? with
  | some x => (match at? n.1 x.1, at? n.1 x.2.2.1 with
    | some a, some b => (roleV a.1 a.2.2.1 x.2.1 == 2) == (roleV b.1 b.2.2.1 x.2.2.2 == 2)
    | _, _ => false)
  | none => false
theorem up_ends {n : Net} {k : Nat} (hk : k < n.2.1.length) (h : pLinkUp n (k : Int) = true) : (∃ a ∈ n.1, at? n.1 n.2.1[k].1 = some a) ∧ ∃ b ∈ n.1, at? n.1 n.2.1[k].2.2.1 = some b := by
  unfold pLinkUp at h
  rw [at_nat hk] at h
  cases h1 : pIn (k : Int) 0 ((n.2.1.length : Int) - 1) with
  | false => rw [h1] at h; cases h
  | true =>
    rw [h1] at h
    simp only [cond_true, linkOn, Bool.and_eq_true] at h
    have key : ∀ b p, upOf (portOf n b p) = true → ∃ a ∈ n.1, at? n.1 b = some a := by
      intro b p hu
      unfold portOf at hu
      cases h2 : pIn b 0 ((n.1.length : Int) - 1) with
      | false => rw [h2] at hu; cases hu
      | true =>
        obtain ⟨j, hj, _, e⟩ := in_at h2
        exact ⟨_, List.getElem_mem hj, e⟩
    exact ⟨key _ _ h.1, key _ _ h.2⟩
theorem speaksT {n : Net} (h : NS n) : impl_OneSpeaks n = some (!((upTo n n.2.1.length).any fun k => badL n k.toNat)) := by
  unfold impl_OneSpeaks
  rw [upLinksT h, Option.bind_some]
  have hl := h.l
  have hle := upTo_le n n.2.1.length
  have hin : ∀ x ∈ upTo n n.2.1.length, ∃ k : Nat, k < n.2.1.length ∧ x = (k : Int) ∧ pLinkUp n (k : Int) = true := by
    intro x hx
    unfold upTo at hx
    obtain ⟨k, hk, rfl⟩ := List.mem_map.1 hx
    rw [List.mem_filter, List.mem_range] at hk
    exact ⟨k, hk.1, rfl, hk.2⟩
  generalize hu : upTo n n.2.1.length = u at hle hin ⊢
  have e : loop (fun z => impl_OneSpeaks_l0 n u z) 0 = some (cond ((List.range u.length).any fun j => match u[j]? with | some k => badL n k.toNat | none => false) (Sum.inr false) (Sum.inl ())) := by
    rw [← all_loop (n := u.length) (c := fun t11 => (ix u.length t11).bind fun j13 => (u[j13]?).bind fun x14 => (at? n.2.1 x14).bind fun x18 => (at? n.1 x18.1).bind fun x24 => (at? n.1 x18.1).bind fun x31 => (impl_RoleOf x24.1 x31.2.2.1 x18.2.1).bind fun t36 => (at? n.1 x18.2.2.1).bind fun x41 => (at? n.1 x18.2.2.1).bind fun x48 => (impl_RoleOf x41.1 x48.2.2.1 x18.2.2.2).bind fun t53 => some ((t36 == 2) == (t53 == 2))) (b := fun j => match u[j]? with | some k => badL n k.toNat | none => false) (by omega) (fun j hj => by
      obtain ⟨k, hk, hk2, hk3⟩ := hin u[j] (List.getElem_mem hj)
      obtain ⟨⟨a, ha, ea⟩, b, hb, eb⟩ := up_ends hk hk3
      simp only [ix_nat hj, Option.bind_some, List.getElem?_eq_getElem hj, hk2, at_nat hk, ea, eb, roleV_eq _ (h.p a ha), roleV_eq _ (h.p b hb), badL, Int.toNat_natCast, List.getElem?_eq_getElem hk])]
    refine loop_ext (fun i => ?_) 0
    unfold impl_OneSpeaks_l0
    simp only [Option.bind_assoc, Option.bind_some]
  rw [e, Option.bind_some]
  have hany : ((List.range u.length).any fun j => match u[j]? with | some k => badL n k.toNat | none => false) = u.any fun k => badL n k.toNat := by
    rw [Bool.eq_iff_iff, List.any_eq_true, List.any_eq_true]
    constructor
    · rintro ⟨j, hj, hb⟩
      rw [List.mem_range] at hj
      rw [List.getElem?_eq_getElem hj] at hb
      exact ⟨u[j], List.getElem_mem hj, hb⟩
    · rintro ⟨x, hx, hb⟩
      obtain ⟨j, hj, rfl⟩ := List.mem_iff_getElem.1 hx
      exact ⟨j, List.mem_range.2 hj, by rw [List.getElem?_eq_getElem hj]; exact hb⟩
  rw [hany]
  cases u.any fun k => badL n k.toNat <;> rfl
theorem speaksS {n : Net} (h : NS n) : spec_OneSpeaks n = some (!((upTo n n.2.1.length).any fun k => badL n k.toNat)) := by
  unfold spec_OneSpeaks
  have hl := h.l
  have e : loop (fun z => spec_OneSpeaks_l0 n z) 0 = some (cond ((List.range n.2.1.length).any fun k => pLinkUp n (k : Int) && badL n k) (Sum.inr false) (Sum.inl ())) := by
    rw [← all_loop (n := n.2.1.length) (c := fun i3 => (spec_LinkUp n i3).bind fun t16 => cond (!t16) (some false) ((at? n.2.1 i3).bind fun x21 => (at? n.1 x21.1).bind fun x27 => (at? n.1 x21.1).bind fun x34 => (spec_RoleOf x27.1 x34.2.2.1 x21.2.1).bind fun t39 => (at? n.1 x21.2.2.1).bind fun x45 => (at? n.1 x21.2.2.1).bind fun x52 => (spec_RoleOf x45.1 x52.2.2.1 x21.2.2.2).bind fun t57 => some ((t39 == 2) == (t57 == 2)))) (b := fun k => pLinkUp n (k : Int) && badL n k) (by omega) (fun k hk => by
      rw [linkS h, Option.bind_some]
      cases hu : pLinkUp n (k : Int) with
      | false => rfl
      | true =>
        obtain ⟨⟨a, ha, ea⟩, b, hb, eb⟩ := up_ends hk hu
        simp only [Bool.not_true, cond_false, at_nat hk, Option.bind_some, ea, eb, roleS, roleV_eq _ (h.p a ha), roleV_eq _ (h.p b hb), badL, List.getElem?_eq_getElem hk, Bool.true_and])]
    refine loop_ext (fun i => ?_) 0
    unfold spec_OneSpeaks_l0
    rw [linkS h]
    simp only [Option.bind_some]
    cases pLinkUp n i with
    | false => simp only [Bool.not_false, cond_true, Option.bind_some, cond_false]
    | true => simp only [Bool.not_true, cond_false, Option.bind_assoc, Option.bind_some]
  rw [e, Option.bind_some]
  have hany : (upTo n n.2.1.length).any (fun k => badL n k.toNat) = ((List.range n.2.1.length).any fun k => pLinkUp n (k : Int) && badL n k) := by
    unfold upTo
    rw [List.any_map, List.any_filter]
    rfl
  rw [hany]
  cases ((List.range n.2.1.length).any fun k => pLinkUp n (k : Int) && badL n k) <;> rfl
theorem fnExactOneSpeaks_pure (n : Net) (h : Cs.wf cNet n) : laws_FnExactOneSpeaks n = some true := by
  obtain ⟨r, h1, h2⟩ := szNet (n := n) (left := 1048576) ⟨by omega, by omega⟩ (net_wf h)
  unfold laws_FnExactOneSpeaks
  rw [h1, Option.bind_some]
  rcases h2 with rfl | ⟨k1, k2, k3⟩
  · rfl
  · have hs := ns_of k3
    rw [dnlt (by omega), cond_false, toNet k3, Option.bind_some, speaksS hs]
    simp [toNet k3, speaksT hs, eqNet k3]
end Go.V.W
