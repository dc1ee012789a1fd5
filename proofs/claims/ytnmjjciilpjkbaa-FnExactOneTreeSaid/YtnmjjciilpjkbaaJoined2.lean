/- The law FnExactOneTree: part of the proof that for every input it returns true. No condition. -/
import Derived.Test.YtnmjjciilpjkbaaJoined
namespace Go.V.W
set_option linter.unusedVariables false
set_option linter.unusedSimpArgs false
/-! ### the reference's list and the program's flags -/
structure Rel (X : List Int) (l : List Bool) : Prop where
  r : ∀ x ∈ X, ∃ k : Nat, k < l.length ∧ x = (k : Int)
  m : ∀ k, k < l.length → l[k]? = some (hasB X (k : Int))
  c : X.length = cnt l
theorem Rel.len {X : List Int} {l : List Bool} (h : Rel X l) : X.length ≤ l.length := by rw [h.c]; exact cnt_le l
theorem Rel.add {X : List Int} {l : List Bool} (h : Rel X l) {i : Nat} (hi : l[i]? = some false) : Rel (X ++ [(i : Int)]) (l.set i true) := by
  obtain ⟨hi', he⟩ := List.getElem?_eq_some_iff.1 hi
  refine ⟨fun x hx => ?_, fun k hk => ?_, ?_⟩
  · rw [List.length_set]
    rcases List.mem_append.1 hx with hx | hx
    · exact h.r x hx
    · simp at hx; exact ⟨i, hi', hx⟩
  · rw [List.length_set] at hk
    rw [List.getElem?_set]
    split
    · rename_i e
      subst e
      rw [show hasB (X ++ [(i : Int)]) (i : Int) = true from decide_eq_true (by simp)]
    · rename_i e
      rw [h.m k hk]
      congr 1
      unfold hasB
      apply decide_eq_decide.2
      rw [List.mem_append, List.mem_singleton]
      constructor
      · exact .inl
      · rintro (h | h)
        · exact h
        · omega
  · rw [List.length_append, cnt_set hi, h.c]; rfl
theorem Rel.in {X : List Int} {l : List Bool} (h : Rel X l) {x : Int} (hx : hasB X x = true) : pIn x 0 ((l.length : Int) - 1) = true := by
  obtain ⟨k, hk, rfl⟩ := h.r x (of_decide_eq_true hx)
  exact nat_in hk
/-- One link more on both sides. -/
theorem more_step {n : Net} (hb : n.1.length ≤ 1048576) (hl : n.2.1.length ≤ 1048576) {ks : List Int} {k : Nat} (hk : k < ks.length) (hks : ks.length ≤ 1048576) {X : List Int} {l : List Bool} (hn : l.length = n.1.length) (h : Rel X l) :
    ∃ Y, spec_l15More_l0 n ks (k : Int) X = some (.inl (((k + 1 : Nat) : Int), Y)) ∧ Rel Y (addK n l ks[k]) := by
  have hX := h.len
  have hs : ∀ x, spec_l15Has X x = some (hasB X x) := fun x => hasS x (by omega)
  have hs1 : ∀ y x, spec_l15Has (X ++ [y]) x = some (hasB (X ++ [y]) x) := fun y x => hasS x (by rw [List.length_append]; show X.length + 1 < _; omega)
  have ha1 : ∀ y : Int, app X [y] = some (X ++ [y]) := fun y => app_big (by show X.length + 1 ≤ _; omega)
  unfold spec_l15More_l0
  rw [dlt (by omega), cond_true, at_nat hk, Option.bind_some, inS, Option.bind_some, w64_nat (by omega), w64_id (n := (n.2.1.length : Int) - 1) (by omega) (by omega), w64_id (n := (n.1.length : Int) - 1) (by omega) (by omega)]
  unfold addK linkOf
  cases hin : pIn ks[k] 0 ((n.2.1.length : Int) - 1) with
  | false => exact ⟨X, rfl, h⟩
  | true =>
    obtain ⟨j, hj, ej, aj⟩ := in_at hin
    rw [Bool.not_true, cond_false, Option.bind_some, cond_true, aj, Option.bind_some]
    simp only [hs, hs1, ha1, inS, Option.bind_some]
    show ∃ Y, _ ∧ Rel Y (addL l n.2.1[j])
    generalize n.2.1[j] = x
    have hedge : edge l x = (pIn x.1 0 ((n.1.length : Int) - 1) && (pIn x.2.2.1 0 ((n.1.length : Int) - 1) && !(l.getD x.1.toNat false == l.getD x.2.2.1.toNat false))) := by unfold edge; rw [hn]
    cases hA : hasB X x.1 with
    | true =>
      have rA := h.in hA
      rw [hn] at rA
      cases hB : hasB X x.2.2.1 with
      | true =>
        have rB := h.in hB
        rw [hn] at rB
        refine ⟨X, rfl, ?_⟩
        obtain ⟨a, ha, ea⟩ := in_nat rA
        obtain ⟨b, hb', eb⟩ := in_nat rB
        rw [← hn] at ha hb'
        have va := h.m a ha
        have vb := h.m b hb'
        rw [← ea, hA, List.getElem?_eq_getElem ha] at va
        rw [← eb, hB, List.getElem?_eq_getElem hb'] at vb
        have he : edge l x = false := by
          rw [hedge, rA, rB, ea, eb, Int.toNat_natCast, Int.toNat_natCast, getD_nat ha, getD_nat hb', Option.some.inj va, Option.some.inj vb]; rfl
        unfold addL; rw [he]; exact h
      | false =>
        cases rB : pIn x.2.2.1 0 ((n.1.length : Int) - 1) with
        | false =>
          refine ⟨X, rfl, ?_⟩
          have he : edge l x = false := by rw [hedge, rA, rB]; rfl
          unfold addL; rw [he]; exact h
        | true =>
          have m1 : hasB (X ++ [x.2.2.1]) x.2.2.1 = true := decide_eq_true (by simp)
          have m2 : hasB (X ++ [x.2.2.1]) x.1 = true := decide_eq_true (List.mem_append.2 (.inl (of_decide_eq_true hA)))
          refine ⟨X ++ [x.2.2.1], ?_, ?_⟩
          · rw [m1, m2]; rfl
          obtain ⟨a, ha, ea⟩ := in_nat rA
          obtain ⟨b, hb', eb⟩ := in_nat rB
          rw [← hn] at ha hb'
          have va := h.m a ha
          have vb := h.m b hb'
          rw [← ea, hA] at va
          rw [← eb, hB] at vb
          have he : edge l x = true := by
            have va' := va
            have vb' := vb
            rw [List.getElem?_eq_getElem ha] at va'
            rw [List.getElem?_eq_getElem hb'] at vb'
            rw [hedge, rA, rB, ea, eb, Int.toNat_natCast, Int.toNat_natCast, getD_nat ha, getD_nat hb', Option.some.inj va', Option.some.inj vb']; rfl
          unfold addL
          rw [he, cond_true, ea, eb, Int.toNat_natCast, Int.toNat_natCast, set_same va]
          exact h.add vb
    | false =>
      cases hB : hasB X x.2.2.1 with
      | false =>
        refine ⟨X, rfl, ?_⟩
        have he : edge l x = false := by
          rw [hedge]
          cases rA : pIn x.1 0 ((n.1.length : Int) - 1) with
          | false => rfl
          | true =>
            cases rB : pIn x.2.2.1 0 ((n.1.length : Int) - 1) with
            | false => rfl
            | true =>
              obtain ⟨a, ha, ea⟩ := in_nat rA
              obtain ⟨b, hb', eb⟩ := in_nat rB
              rw [← hn] at ha hb'
              have va := h.m a ha
              have vb := h.m b hb'
              rw [← ea, hA, List.getElem?_eq_getElem ha] at va
              rw [← eb, hB, List.getElem?_eq_getElem hb'] at vb
              rw [ea, eb, Int.toNat_natCast, Int.toNat_natCast, getD_nat ha, getD_nat hb', Option.some.inj va, Option.some.inj vb]; rfl
        unfold addL; rw [he]; exact h
      | true =>
        have rB := h.in hB
        rw [hn] at rB
        cases rA : pIn x.1 0 ((n.1.length : Int) - 1) with
        | false =>
          refine ⟨X, rfl, ?_⟩
          have he : edge l x = false := by rw [hedge, rA]; rfl
          unfold addL; rw [he]; exact h
        | true =>
          refine ⟨X ++ [x.1], rfl, ?_⟩
          obtain ⟨a, ha, ea⟩ := in_nat rA
          obtain ⟨b, hb', eb⟩ := in_nat rB
          rw [← hn] at ha hb'
          have va := h.m a ha
          have vb := h.m b hb'
          rw [← ea, hA] at va
          rw [← eb, hB] at vb
          have he : edge l x = true := by
            have va' := va
            have vb' := vb
            rw [List.getElem?_eq_getElem ha] at va'
            rw [List.getElem?_eq_getElem hb'] at vb'
            rw [hedge, rA, rB, ea, eb, Int.toNat_natCast, Int.toNat_natCast, getD_nat ha, getD_nat hb', Option.some.inj va', Option.some.inj vb']; rfl
          unfold addL
          rw [he, cond_true, ea, eb, Int.toNat_natCast, Int.toNat_natCast]
          have hab : (l.set a true)[b]? = some true := by
            rw [List.getElem?_set]
            split
            · rfl
            · exact vb
          rw [set_same hab]
          exact h.add va
theorem moreS {n : Net} (hb : n.1.length ≤ 1048576) (hl : n.2.1.length ≤ 1048576) {ks : List Int} (hks : ks.length ≤ 1048576) {X : List Int} {l : List Bool} (hn : l.length = n.1.length) (h : Rel X l) :
    ∃ Y, spec_l15More n ks X = some Y ∧ Rel Y (pass n ks l) := by
  have hX := h.len
  obtain ⟨v, h1, h2⟩ := loop_inv (step := fun z : Int × List Int => spec_l15More_l0 n ks z.1 z.2) (fun k z => z.1 = (k : Int) ∧ Rel z.2 (pass n (ks.take k) l)) ks.length (fun v => Rel v (pass n ks l))
    (fun k z hk ⟨e1, e2⟩ => by
      obtain ⟨i, Z⟩ := z
      simp only at e1 e2
      subst e1
      obtain ⟨Y, hY, hr⟩ := more_step hb hl hk hks (by rw [pass_len]; exact hn) e2
      refine .inl ⟨_, hY, rfl, ?_⟩
      have : pass n (ks.take (k + 1)) l = addK n (pass n (ks.take k) l) ks[k] := by
        unfold pass
        rw [List.take_add_one, List.getElem?_eq_getElem hk, List.foldl_append]; rfl
      rw [this]; exact hr)
    (fun z ⟨e1, e2⟩ => by
      obtain ⟨i, Z⟩ := z
      simp only at e1 e2
      subst e1
      rw [List.take_length] at e2
      refine ⟨Z, ?_, e2⟩
      show spec_l15More_l0 n ks _ Z = _
      unfold spec_l15More_l0
      rw [dnlt (by omega), cond_false]) (x := (0, X)) ⟨rfl, h⟩
  unfold spec_l15More
  rw [app_big (by show 0 + X.length ≤ _; omega), Option.bind_some, List.nil_append, h1, Option.bind_some]
  exact ⟨v, rfl, h2⟩
theorem roundsS {n : Net} (hb : n.1.length ≤ 1048576) (hl : n.2.1.length ≤ 1048576) {ks : List Int} (hks : ks.length ≤ 1048576) {X : List Int} {l : List Bool} (hn : l.length = n.1.length) (h : Rel X l) :
    ∃ Y, loop (fun z => spec_Joined_l0 n ks z.1 z.2) (0, X) = some Y ∧ Rel Y (passN n ks l l.length) := by
  obtain ⟨v, h1, h2⟩ := loop_inv (step := fun z : Int × List Int => spec_Joined_l0 n ks z.1 z.2) (fun k z => z.1 = (k : Int) ∧ Rel z.2 (passN n ks l k)) n.1.length (fun v => Rel v (passN n ks l n.1.length))
    (fun k z hk ⟨e1, e2⟩ => by
      obtain ⟨i, Z⟩ := z
      simp only at e1 e2
      subst e1
      obtain ⟨Y, hY, hr⟩ := moreS hb hl hks (by rw [passN_len]; exact hn) e2
      refine .inl ⟨(((k + 1 : Nat) : Int), Y), ?_, rfl, hr⟩
      show spec_Joined_l0 n ks (k : Int) Z = _
      unfold spec_Joined_l0
      rw [dlt (by omega), cond_true, hY, Option.bind_some, w64_nat (by omega)])
    (fun z ⟨e1, e2⟩ => by
      obtain ⟨i, Z⟩ := z
      simp only at e1 e2
      subst e1
      refine ⟨Z, ?_, e2⟩
      show spec_Joined_l0 n ks _ Z = _
      unfold spec_Joined_l0
      rw [dnlt (by omega), cond_false]) (x := (0, X)) ⟨rfl, h⟩
  rw [hn]
  exact ⟨v, h1, h2⟩
/-! ### what is joined -/
def start (n : Nat) (b : Nat) : List Bool := (List.replicate n false).set b true
def joined (n : Net) (b : Int) (ks : List Int) : List Int := cond (pIn b 0 ((n.1.length : Int) - 1)) (those (fun k => (passN n ks (start n.1.length b.toNat) n.1.length).getD k false) n.1.length) []
theorem joined_le (n : Net) (b : Int) (ks : List Int) : (joined n b ks).length ≤ n.1.length := by
  unfold joined
  cases pIn b 0 ((n.1.length : Int) - 1) with
  | false => exact Nat.zero_le _
  | true => exact those_le _ _
theorem start_len (n b : Nat) : (start n b).length = n := by unfold start; simp
theorem joinedT {n : Net} (hb : n.1.length ≤ 1048576) (hl : n.2.1.length ≤ 1048576) (b : Int) {ks : List Int} (hks : ks.length ≤ 1048576) : impl_Joined n b ks = some (joined n b ks) := by
  unfold impl_Joined joined
  rw [inT, Option.bind_some, w64_id (n := (n.1.length : Int) - 1) (by omega) (by omega)]
  cases hin : pIn b 0 ((n.1.length : Int) - 1) with
  | false => rfl
  | true =>
    obtain ⟨k, hk, rfl⟩ := in_nat hin
    have e0 : (List.replicate n.1.length false)[k]? = some false := by rw [List.getElem?_replicate, if_pos hk]
    have hlen : (start n.1.length k).length = n.1.length := start_len _ _
    have h1 : 1 ≤ cnt (start n.1.length k) := by unfold start; rw [cnt_set e0]; omega
    rw [Bool.not_true, cond_false, mkLen_nat (by omega), Option.bind_some, List.length_replicate, ix_nat hk, Option.bind_some, e0, Option.bind_some]
    show (loop (fun z => impl_Joined_l0 n ks z.1 z.2) (true, start n.1.length k)).bind _ = _
    rw [outer hl hks _ (by omega) h1, Option.bind_some, hlen, Int.toNat_natCast, cond_true]
    have hp : (passN n ks (start n.1.length k) n.1.length).length = n.1.length := by rw [passN_len, hlen]
    generalize passN n ks (start n.1.length k) n.1.length = d at hp ⊢
    have hc := collect (n := d.length) (c := fun t => (ix d.length t).bind fun j => (d[j]?).bind fun x => some x) (b := fun k => d.getD k false) (by omega) (fun k hk => by
      simp only [ix_nat hk, Option.bind_some, List.getElem?_eq_getElem hk, getD_nat hk])
    have he : loop (fun z => impl_Joined_l4 d z.1 z.2) (0, []) = some (those (fun k => d.getD k false) d.length) := by
      rw [← hc]
      refine loop_ext (fun z => ?_) _
      unfold impl_Joined_l4
      simp only [Option.bind_assoc, Option.bind_some]
    rw [he, Option.bind_some, hp]
theorem joinedS {n : Net} (hb : n.1.length ≤ 1048576) (hl : n.2.1.length ≤ 1048576) (b : Int) {ks : List Int} (hks : ks.length ≤ 1048576) : spec_Joined n b ks = some (joined n b ks) := by
  unfold spec_Joined joined
  rw [inS, Option.bind_some, w64_id (n := (n.1.length : Int) - 1) (by omega) (by omega)]
  cases hin : pIn b 0 ((n.1.length : Int) - 1) with
  | false => rfl
  | true =>
    obtain ⟨k, hk, rfl⟩ := in_nat hin
    have e0 : (List.replicate n.1.length false)[k]? = some false := by rw [List.getElem?_replicate, if_pos hk]
    have hlen : (start n.1.length k).length = n.1.length := start_len _ _
    have hr : Rel ([] : List Int) (List.replicate n.1.length false) := by
      refine ⟨fun x hx => absurd hx (List.not_mem_nil), fun j hj => ?_, ?_⟩
      · rw [List.length_replicate] at hj
        rw [List.getElem?_replicate, if_pos hj]; rfl
      · unfold cnt; rw [List.count_replicate]; rfl
    have hr' : Rel [(k : Int)] (start n.1.length k) := hr.add e0
    obtain ⟨Y, hY, hrY⟩ := roundsS hb hl hks hlen hr'
    rw [hlen] at hrY
    have hp : (passN n ks (start n.1.length k) n.1.length).length = n.1.length := by rw [passN_len, hlen]
    rw [Bool.not_true, cond_false, hY, Option.bind_some, cond_true, Int.toNat_natCast]
    generalize passN n ks (start n.1.length k) n.1.length = d at hp hrY ⊢
    have hY' := hrY.len
    have hc := collect (n := n.1.length) (c := fun t => spec_l15Has Y t) (b := fun k => d.getD k false) (by omega) (fun k hk => by
      rw [hasS _ (by omega), getD_nat (by omega)]
      have := hrY.m k (by omega)
      rw [List.getElem?_eq_getElem (by omega)] at this
      exact this.symm)
    have he : loop (fun z => spec_Joined_l2 n Y z.1 z.2) (0, []) = some (those (fun k => d.getD k false) n.1.length) := hc
    rw [he, Option.bind_some]
end Go.V.W
