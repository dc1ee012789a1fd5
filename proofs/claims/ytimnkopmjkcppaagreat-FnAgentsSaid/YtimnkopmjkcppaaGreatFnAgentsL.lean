/- The law FnAgents: part of the proof that for every input it returns true. No condition. -/
import Derived.Test.YtimnkopmjkcppaaGreatFnAgentsB
set_option linter.unusedVariables false
set_option linter.unusedSimpArgs false
namespace Go.V.W
theorem fnAgents_pure (code:List Int) (hw:Cs.wf (.one (.sl (.one (.int .u8)))) code):laws_FnAgents code = some true:=by
 unfold laws_FnAgents gT
 by_cases hbig:(code.length:Int) > 1048576
 · simp only [dT hbig,Option.bind_some,cT]
 simp only [dF hbig,Option.bind_some,cF]
 obtain ⟨a,m,ed,hA,hM,hlim⟩:=agentD (code:=code) (by omega)
 have hml:m.length ≤ M:=by have:=hM.2; show _ ≤ 1048576; omega
 obtain ⟨r,r1,r2,hR,_⟩:=arriveI hA hM.1 hml
 obtain ⟨x,hx⟩:=atE (bytesW hw) (by omega) (i:=2) (by omega) (by omega)
 have hrn:=hR.n
 have hn1:w64 ((r.2.2.2.2.2.2.2.2.2.2.2.2.1.length:Int) + 1) = (((aJobs r).length + 1:Nat):Int):=w64_nat (show (aJobs r).length < 9223372036854775807 by omega)
 obtain ⟨k,hk⟩:∃ k:Nat,rem (x:Int) (((aJobs r).length + 1:Nat):Int) = some (k:Int):=by
  refine ⟨x % ((aJobs r).length + 1),?_⟩
  unfold rem
  rw [if_neg (by omega),Int.tmod_eq_emod_of_nonneg (by omega)]
  rfl
 obtain ⟨w,w1,hW,hWn⟩:∃ w,bE r (k:Int) = some w ∧ AInv w.1 ∧ w.2.length ≤ 1:=by
  by_cases hk:k < (aJobs r).length
  · exact ⟨_,workF hR hk,work_inv hR hk⟩
  · exact ⟨_,workF0 hR (.inr (by omega)),hR,by simp⟩
 obtain ⟨l1,l2⟩:=pIn_true hA.lo
 obtain ⟨l3,l4⟩:=pIn_true hA.la
 rw [ed]
 simp only [Option.bind_some,r1,r2,hx,hn1,hk,w1]
 rw [agentT hA.awf,agentT hR.awf,agentT hW.awf,hA.ok,hR.ok,hW.ok,sameAgentT hR.ale]
 have hq:decide ((w.2.length:Int) > 1) = false:=dF (by omega)
 simp only [Option.bind_some,Bool.not_true,cF,hq]
 by_cases h6:(aJobs a).length < 6
 · have e:=arriveT hA hml h6 (by omega)
   rw [r1] at e
   cases e
   have hne:((a.2.2.2.2.2.2.2.2.2.2.2.2.1.length:Int) == 6) = false:=beq_eq_false_iff_ne.2 (by show ((aJobs a).length:Int) ≠ 6; omega)
   have hj:(mkA (aB a) (aW a) (aJobs a ++ [newJ (aLast a + 1) m]) (aLost a) (aLast a + 1)).2.2.2.2.2.2.2.2.2.2.2.2.1 = aJobs a ++ [newJ (aLast a + 1) m]:=rfl
   have hat:at? (aJobs a ++ [newJ (aLast a + 1) m]) (w64 (((aJobs a ++ [newJ (aLast a + 1) m]).length:Int) - 1)) = some (newJ (aLast a + 1) m):=by
    have hl:(aJobs a ++ [newJ (aLast a + 1) m]).length = (aJobs a).length + 1:=by simp
    rw [hl,show w64 ((((aJobs a).length + 1:Nat):Int) - 1) = (((aJobs a).length:Nat):Int) from by rw [w64_id (by omega) (by omega)]; omega,at_nat (by omega)]
    simp
   have hl1:w64 (a.2.2.2.2.2.2.2.2.2.2.2.2.2.2 + 1) = aLast a + 1:=w64_id (by show _ ≤ aLast a + 1; omega) (by show aLast a + 1 ≤ _; omega)
   rw [hne,cF,hj,hat]
   simp only [Option.bind_some,hl1]
   have q1:((mkA (aB a) (aW a) (aJobs a ++ [newJ (aLast a + 1) m]) (aLost a) (aLast a + 1)).2.2.2.2.2.2.2.2.2.2.2.2.2.1 == a.2.2.2.2.2.2.2.2.2.2.2.2.2.1) = true:=beq_self_eq_true (aLost a)
   have q2:((newJ (aLast a + 1) m).1 == aLast a + 1) = true:=beq_self_eq_true (aLast a + 1)
   have q3:((newJ (aLast a + 1) m).2.2.1 == 0) = true:=rfl
   have q4:dG (newJ (aLast a + 1) m).2.1 m = some true:=sameBytesT hml
   have q5:((mkA (aB a) (aW a) (aJobs a ++ [newJ (aLast a + 1) m]) (aLost a) (aLast a + 1)).2.2.2.2.2.2.2.2.2.2.2.2.2.2 == aLast a + 1) = true:=beq_self_eq_true (aLast a + 1)
   simp only [q1,q2,q3,q4,q5,cT,Option.bind_some]
 · have e:=arriveF hA (m:=m) (fun h=>h6 h.1)
   rw [r1] at e
   cases e
   have h6':=hA.n
   have hne:((a.2.2.2.2.2.2.2.2.2.2.2.2.1.length:Int) == 6) = true:=beq_iff_eq.2 (by show ((aJobs a).length:Int) = 6; omega)
   have hm:moreV (aLost a) = w64 (a.2.2.2.2.2.2.2.2.2.2.2.2.2.1 + 1):=by
    show moreV (aLost a) = w64 (aLost a + 1)
    unfold moreV min2
    rw [w64_id (by omega) (by omega)]
    split <;> omega
   have q1:((mkA (aB a) (aW a) (aJobs a) (moreV (aLost a)) (aLast a)).2.2.2.2.2.2.2.2.2.2.2.2.2.1 == w64 (a.2.2.2.2.2.2.2.2.2.2.2.2.2.1 + 1)) = true:=by
    show (moreV (aLost a) == _) = true
    rw [hm]; exact beq_self_eq_true _
   have q2:(((mkA (aB a) (aW a) (aJobs a) (moreV (aLost a)) (aLast a)).2.2.2.2.2.2.2.2.2.2.2.2.1.length:Int) == (a.2.2.2.2.2.2.2.2.2.2.2.2.1.length:Int)) = true:=beq_self_eq_true ((aJobs a).length:Int)
   have q3:((mkA (aB a) (aW a) (aJobs a) (moreV (aLost a)) (aLast a)).2.2.2.2.2.2.2.2.2.2.2.2.2.2 == a.2.2.2.2.2.2.2.2.2.2.2.2.2.2) = true:=beq_self_eq_true (aLast a)
   rw [hne,cT]
   simp only [q1,q2,q3,cT,Option.bind_some]
end Go.V.W

