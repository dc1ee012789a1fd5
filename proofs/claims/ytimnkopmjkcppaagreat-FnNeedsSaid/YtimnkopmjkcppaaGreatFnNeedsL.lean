/- The law FnNeeds: part of the proof that for every input it returns true. No condition. -/
import Derived.Test.YtimnkopmjkcppaaGreatFnNeedsB
set_option linter.unusedVariables false
set_option linter.unusedSimpArgs false
namespace Go.V.W
noncomputable def stepN (k:Int) (x:Job) (n q:Int) (z:Int × Agent):=gd k x n q z.1 z.2.1 z.2.2.1 z.2.2.2.1 z.2.2.2.2.1 z.2.2.2.2.2.1 z.2.2.2.2.2.2.1 z.2.2.2.2.2.2.2.1 z.2.2.2.2.2.2.2.2.1 z.2.2.2.2.2.2.2.2.2.1 z.2.2.2.2.2.2.2.2.2.2.1 z.2.2.2.2.2.2.2.2.2.2.2.1 z.2.2.2.2.2.2.2.2.2.2.2.2.1 z.2.2.2.2.2.2.2.2.2.2.2.2.2.1 z.2.2.2.2.2.2.2.2.2.2.2.2.2.2.1 z.2.2.2.2.2.2.2.2.2.2.2.2.2.2.2
theorem stepGo {a w:Agent} {d:List Done} {k i n:Nat} {q:Bool} {x:Job} (hk:k < (aJobs a).length) (hi:i < n) (hn:n ≤ 1000) (hx:(aJobs a)[k].1 = x.1) (hw:bn a (k:Int) = some (w,d))
 (hd:(d = [] ∧ (q = false ∨ i + 1 < n)) ∨ (q = true ∧ i + 1 = n ∧ ∃ p,d = [(x.1,p)])) :
 stepN (k:Int) x (n:Int) (cond q 1 0) ((i:Int),a) = some (.inl (((i + 1:Nat):Int),w)):=by
 unfold stepN gd
 have h1:decide ((i:Int) < (n:Int)) = true:=dT (by omega)
 have h2:decide ((k:Int) ≥ (a.2.2.2.2.2.2.2.2.2.2.2.2.1.length:Int)) = false:=dF (by show ¬ (k:Int) ≥ ((aJobs a).length:Int); omega)
 have h3:at? a.2.2.2.2.2.2.2.2.2.2.2.2.1 (k:Int) = some (aJobs a)[k]:=at_nat hk
 have hw':bn (a.1,a.2.1,a.2.2.1,a.2.2.2.1,a.2.2.2.2.1,a.2.2.2.2.2.1,a.2.2.2.2.2.2.1,a.2.2.2.2.2.2.2.1,a.2.2.2.2.2.2.2.2.1,a.2.2.2.2.2.2.2.2.2.1,a.2.2.2.2.2.2.2.2.2.2.1,a.2.2.2.2.2.2.2.2.2.2.2.1,a.2.2.2.2.2.2.2.2.2.2.2.2.1,a.2.2.2.2.2.2.2.2.2.2.2.2.2.1,a.2.2.2.2.2.2.2.2.2.2.2.2.2.2) (k:Int) = some (w,d):=hw
 have h4:w64 ((n:Int) - 1) = (n:Int) - 1:=w64_id (by omega) (by omega)
 simp only [h1,h2,h3,cT,cF,Option.bind_some,hx,bne_self_eq_false,hw',h4,w64_nat (show i < 9223372036854775807 by omega)]
 rcases hd with ⟨rfl,hq⟩ | ⟨rfl,hi,p,rfl⟩
 · simp only [List.length_nil,show decide (((0:Nat):Int) > 0) = false from rfl,cF,Option.bind_some]
   by_cases hi':i + 1 < n
   · rw [show ((i:Int) == (n:Int) - 1) = false from beq_eq_false_iff_ne.2 (by omega)]; rfl
   · rw [show ((i:Int) == (n:Int) - 1) = true from beq_iff_eq.2 (by omega),hq.resolve_right hi']; rfl
 · have e:((i:Int) == (n:Int) - 1) = true:=beq_iff_eq.2 (by omega)
   rw [bne,e]
   have e0:at? [(x.1,p)] 0 = some (x.1,p):=rfl
   simp only [e0,Option.bind_some,bne_self_eq_false,cT,cF,Bool.not_true]
   rfl
theorem stepEnd {a:Agent} {k n q:Int} {x:Job}:stepN k x n q (n,a) = some (.inr (.inl a)):=by
 unfold stepN gd
 rw [show decide (n < n) = false from dF (by omega),cF]
theorem needsRun {k n:Nat} {x:Job} (q:Bool) (hn:n ≤ 1000):∀ (m i:Nat) (a:Agent) (hk:k < (aJobs a).length),AInv a → i + m = n → needV (aW a) (aB a) (aJobs a)[k] = m → (aJobs a)[k].1 = x.1 → asksV (aW a) (aJobs a)[k] = q →
 ∃ a',loop (stepN (k:Int) x (n:Int) (cond q 1 0)) ((i:Int),a) = some (.inl a') ∧ (aJobs a').length + 1 = (aJobs a).length ∧ ∀ h:k < (aJobs a').length,(aJobs a')[k].1 ≠ x.1
 | 0,i,a,hk,h,hi,hv,hx,hq=>absurd hv (by have:=need_pos (aW a) (aB a) (aJobs a)[k]; omega)
 | m + 1,i,a,hk,h,hi,hv,hx,hq=>by
  have hw:=workF h hk
  have hw1:=(work_inv h hk).1
  rcases work_cases h hk with ⟨j',e,k1,k2,k3,k4⟩ | ⟨b',d,e,k1,k2,k3,k4⟩
  · rw [e] at hw hw1
    have hp:=need_pos (aW a) (aB a) j'
    have hst:=stepGo (q:=q) (x:=x) hk (show i < n by omega) hn hx hw (.inl ⟨rfl,.inr (by omega)⟩)
    have hk':k < ((aJobs a).set k j').length:=by rw [List.length_set]; exact hk
    have hg:((aJobs a).set k j')[k] = j':=by simp
    obtain ⟨a',r1,r2,r3⟩:=needsRun q hn m (i + 1) (mkA (aB a) (aW a) ((aJobs a).set k j') (aLost a) (aLast a)) hk' hw1 (by omega)
     (by show needV (aW a) (aB a) ((aJobs a).set k j')[k] = m; rw [hg]; omega)
     (by show ((aJobs a).set k j')[k].1 = x.1; rw [hg,k2]; exact hx)
     (by show asksV (aW a) ((aJobs a).set k j')[k] = q; rw [hg,k4]; exact hq)
    refine ⟨a',loop_in hst r1,?_,r3⟩
    have:(aJobs (mkA (aB a) (aW a) ((aJobs a).set k j') (aLost a) (aLast a))).length = (aJobs a).length:=List.length_set
    omega
  · rw [e] at hw
    have hd:(d = [] ∧ (q = false ∨ i + 1 < n)) ∨ (q = true ∧ i + 1 = n ∧ ∃ p,d = [(x.1,p)]):=by
     cases q with
     | false=>exact .inl ⟨k3 hq,.inl rfl⟩
     | true =>
      obtain ⟨p,hp,_⟩:=k4 hq
      exact .inr ⟨rfl,by omega,p,by rw [hp,hx]⟩
    have hst:=stepGo (q:=q) (x:=x) hk (show i < n by omega) hn hx hw hd
    have hin:i + 1 = n:=by omega
    rw [hin] at hst
    refine ⟨_,loop_in hst (loop_end stepEnd),?_,fun hk'=>?_⟩
    · show ((aJobs a).eraseIdx k).length + 1 = _
      rw [List.length_eraseIdx_of_lt hk]; omega
    · have hk2:k < ((aJobs a).eraseIdx k).length:=hk'
      have hk3:k + 1 < (aJobs a).length:=by rw [List.length_eraseIdx_of_lt hk] at hk2; omega
      show ((aJobs a).eraseIdx k)[k].1 ≠ x.1
      rw [List.getElem_eraseIdx_of_ge (h':=Nat.le_refl _),← hx]
      have:=List.pairwise_iff_getElem.1 h.up k (k + 1) hk hk3 (by omega)
      omega
theorem needsEnd {a a':Agent} {k:Nat} {x:Job} {o:Option (Agent ⊕ Bool)} (r1:o = some (.inl a')) (hk:k < (aJobs a).length) (hl:(aJobs a').length + 1 = (aJobs a).length) (hn:(aJobs a).length ≤ 6) (r3:∀ h:k < (aJobs a').length,(aJobs a')[k].1 ≠ x.1) :
 o.bind (Sum.elim (fun d:Agent =>
  (cond ((d.2.2.2.2.2.2.2.2.2.2.2.2.1.length:Int) == (w64 ((a.2.2.2.2.2.2.2.2.2.2.2.2.1.length:Int) - 1)))
   ((cond ((k:Int) == (d.2.2.2.2.2.2.2.2.2.2.2.2.1.length:Int))
    (some true)
    ((at? d.2.2.2.2.2.2.2.2.2.2.2.2.1 (k:Int)).bind fun x149 =>
    some (x149.1 != x.1))).bind fun t154 =>
   some t154)
   (some false)).bind fun t155 =>
  some t155) (fun r=>some r)) = some true:=by
 have hw2:w64 (((aJobs a).length:Int) - 1) = ((aJobs a').length:Int):=by rw [w64_id (by omega) (by omega)]; omega
 have e5:((a'.2.2.2.2.2.2.2.2.2.2.2.2.1.length:Int) == (w64 ((a.2.2.2.2.2.2.2.2.2.2.2.2.1.length:Int) - 1))) = true:=by
  show (((aJobs a').length:Int) == w64 (((aJobs a).length:Int) - 1)) = true
  rw [hw2]; exact beq_self_eq_true _
 rw [r1,Option.bind_some,Sum.elim_inl,e5,cT]
 by_cases hk2:k = (aJobs a').length
 · have e6:((k:Int) == (a'.2.2.2.2.2.2.2.2.2.2.2.2.1.length:Int)) = true:=beq_iff_eq.2 (by show (k:Int) = ((aJobs a').length:Int); omega)
   rw [e6]; rfl
 · by_cases hk3:k < (aJobs a').length
   · have e6:((k:Int) == (a'.2.2.2.2.2.2.2.2.2.2.2.2.1.length:Int)) = false:=beq_eq_false_iff_ne.2 (by show (k:Int) ≠ ((aJobs a').length:Int); omega)
     have e7:at? a'.2.2.2.2.2.2.2.2.2.2.2.2.1 (k:Int) = some (aJobs a')[k]:=at_nat hk3
     rw [e6,cF,e7,Option.bind_some,show ((aJobs a')[k].1 != x.1) = true from bne_iff_ne.2 (r3 hk3)]; rfl
   · exact absurd hk (by omega)
theorem fnNeeds_pure (code:List Int) (hw:Cs.wf (.one (.sl (.one (.int .u8)))) code):laws_FnNeeds code = some true:=by
 unfold laws_FnNeeds gR
 by_cases hbig:(code.length:Int) > 1048576
 · simp only [dT hbig,Option.bind_some,cT]
 simp only [dF hbig,Option.bind_some,cF]
 obtain ⟨a,m,ed,hA,hM,hlim⟩:=agentD (code:=code) (by omega)
 rw [ed,Option.bind_some]
 simp only
 have hn:=hA.n
 by_cases h0:(aJobs a).length = 0
 · have e0:((a.2.2.2.2.2.2.2.2.2.2.2.2.1.length:Int) == 0) = true:=beq_iff_eq.2 (by show ((aJobs a).length:Int) = 0; omega)
   rw [e0,cT]
   have e1:ct a = some true:=by unfold ct; simp only [e0]
   have e2:bx a 0 = some 0:=by
    unfold bx
    have hwl:w64 ((a.2.2.2.2.2.2.2.2.2.2.2.2.1.length:Int) - 1) = -1:=by
     show w64 (((aJobs a).length:Int) - 1) = -1
     rw [h0]; rfl
    rw [agentT hA.awf,Option.bind_some,hA.ok,Bool.not_true,cF,hwl,inT,Option.bind_some]
    rfl
   rw [e1,Option.bind_some,cT,e2]; rfl
 · have e0:((a.2.2.2.2.2.2.2.2.2.2.2.2.1.length:Int) == 0) = false:=beq_eq_false_iff_ne.2 (by show ((aJobs a).length:Int) ≠ 0; omega)
   rw [e0,cF]
   obtain ⟨y,hy⟩:=atE (bytesW hw) (by omega) (i:=2) (by omega) (by omega)
   have hr:rem (y:Int) (a.2.2.2.2.2.2.2.2.2.2.2.2.1.length:Int) = some ((y % (aJobs a).length:Nat):Int):=by
    show rem (y:Int) ((aJobs a).length:Int) = _
    unfold rem
    rw [if_neg (by omega),Int.tmod_eq_emod_of_nonneg (by omega)]
    rfl
   rw [hy,Option.bind_some,hr,Option.bind_some]
   have hk:y % (aJobs a).length < (aJobs a).length:=Nat.mod_lt _ (by omega)
   generalize y % (aJobs a).length = k at hk
   have ea:at? a.2.2.2.2.2.2.2.2.2.2.2.2.1 (k:Int) = some (aJobs a)[k]:=at_nat hk
   have hJ:=hA.j _ (List.getElem_mem hk)
   have en:=needI hA hk
   obtain ⟨r,en1,en2⟩:=needX hA.awf hA.ale (fun j hj=>(hA.j j hj).byt) (k:Int)
   have er:=en1.symm.trans en
   cases er
   rw [ea]
   simp only [Option.bind_some,en,en2]
   have hl1:ALe M (mkA (aB a) (aW a) [(aJobs a)[k]] (aLost a) (aLast a)):=⟨hA.ale.1,hA.ale.2.1,(by show 1 ≤ 1048576; decide),fun j hj=>by
    have hj':j = (aJobs a)[k]:=List.mem_singleton.1 (show j ∈ [(aJobs a)[k]] from hj)
    rw [hj']; exact hA.ale.2.2.2 _ (List.getElem_mem hk)⟩
   have hb1:∀ j ∈ aJobs (mkA (aB a) (aW a) [(aJobs a)[k]] (aLost a) (aLast a)),Byt j.2.1:=fun j hj=>by
    have hj':j = (aJobs a)[k]:=List.mem_singleton.1 (show j ∈ [(aJobs a)[k]] from hj)
    rw [hj']; exact hJ.byt
   have eq:eA (mkA (aB a) (aW a) [(aJobs a)[k]] (aLost a) (aLast a)) = some (cond (asksV (aW a) (aJobs a)[k]) 1 0):=by
    rw [answersI hl1 hb1]
    show some (((List.filter (asksV (aW a)) [(aJobs a)[k]]).length:Nat):Int) = _
    cases hq:asksV (aW a) (aJobs a)[k] with
    | true=>rw [List.filter_cons_of_pos (by rw [hq])]; rfl
    | false=>rw [List.filter_cons_of_neg (by rw [hq]; simp)]; rfl
   refine bnd_of eq ?_
   have hp:=need_pos (aW a) (aB a) (aJobs a)[k]
   have hle:=need_le (aW a) (aB a) hJ
   have e1:ct a = some false:=by unfold ct; simp only [e0]
   have e3:decide (((needV (aW a) (aB a) (aJobs a)[k]:Nat):Int) < 1) = false:=dF (by omega)
   simp only [bne_self_eq_false,cF,Option.bind_some,e3,e1]
   obtain ⟨a',r1,r2,r3⟩:=needsRun (x:=(aJobs a)[k]) (asksV (aW a) (aJobs a)[k]) (n:=needV (aW a) (aB a) (aJobs a)[k]) (by omega) _ 0 a hk hA (by omega) rfl rfl rfl
   exact needsEnd r1 hk r2 hn r3
end Go.V.W

