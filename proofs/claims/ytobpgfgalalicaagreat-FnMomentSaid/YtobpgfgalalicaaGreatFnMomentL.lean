/- The law FnMoment: part of the proof that for every input it returns true. No condition. -/
import Derived.Test.YtobpgfgalalicaaGreatFnMomentB
namespace Go.V.W
set_option linter.unusedVariables false
set_option linter.unusedSimpArgs false
abbrev yard:List UInt8:=[121,97,114,100]
abbrev SM:=Int × Int × List UInt8 × Int × Int × Int × Int × Int × List UInt8 × Int × Int × List Pt × List Fent × List Vrow × List Int × List Job
def stM (a:Agent) (i:Int):SM:=(i,a.1,a.2.1,a.2.2.2.2.2.2.1,a.2.2.2.2.2.2.2.1,a.2.2.2.2.2.2.2.2.1,a.2.2.2.2.2.2.2.2.2.1,a.2.2.2.2.2.2.2.2.2.2.1,a.2.2.2.2.2.2.2.2.2.2.2.1,a.2.2.2.2.2.2.2.2.2.2.2.2.2.1,a.2.2.2.2.2.2.2.2.2.2.2.2.2.2,a.2.2.1,a.2.2.2.1,a.2.2.2.2.1,a.2.2.2.2.2.1,a.2.2.2.2.2.2.2.2.2.2.2.2.1)
theorem askT {b:Bridge} {q:Pdu} (h:BOk b) (h1:pPdu q = true) (h2:(q.1 != 162) = true):(replyV b q).2.2 = true ∧ (replyV b q).1 = (doneV b q).1:=by
 have e:askP b q = true:=by unfold askP; rw [h.ok,h1,h2]; rfl
 unfold replyV
 rw [e]; exact ⟨rfl,rfl⟩
theorem lateA (q:Pdu):(cond ((lateV q).2.2.1 == 6) (some true) (some ((lateV q).2.2.1 == 7)):Option Bool) = some true:=by
 unfold lateV
 cases fitP (162,q.2.1,6,1,q.2.2.2.2) <;> rfl
theorem momS {T:Bridge × List Act} {a:Agent} (h:AInv a) {k:Nat} (hk:k < T.2.length) (hT:T.2.length ≤ 1000) (hx:ActD T.2[k]):∃ a',AInv a' ∧ laws_FnMoment_l0 T (k:Int) a.1 a.2.1 a.2.2.2.2.2.2.1 a.2.2.2.2.2.2.2.1 a.2.2.2.2.2.2.2.2.1 a.2.2.2.2.2.2.2.2.2.1 a.2.2.2.2.2.2.2.2.2.2.1 a.2.2.2.2.2.2.2.2.2.2.2.1 a.2.2.2.2.2.2.2.2.2.2.2.2.2.1 a.2.2.2.2.2.2.2.2.2.2.2.2.2.2 a.2.2.1 a.2.2.2.1 a.2.2.2.2.1 a.2.2.2.2.2.1 a.2.2.2.2.2.2.2.2.2.2.2.2.1 = some (.inl (stM a' ((k + 1:Nat):Int))):=by
 have hM:M = 1048576:=rfl
 have h6:=h.n
 obtain ⟨⟨a',outs,d⟩,r1,r2,r3⟩:=doT h hx.1 (by have:=hx.2; omega)
 simp only at r2 r3
 refine ⟨a',r2,?_⟩
 have hD:impl_DoAct (a.1,a.2.1,a.2.2.1,a.2.2.2.1,a.2.2.2.2.1,a.2.2.2.2.2.1,a.2.2.2.2.2.2.1,a.2.2.2.2.2.2.2.1,a.2.2.2.2.2.2.2.2.1,a.2.2.2.2.2.2.2.2.2.1,a.2.2.2.2.2.2.2.2.2.2.1,a.2.2.2.2.2.2.2.2.2.2.2.1,a.2.2.2.2.2.2.2.2.2.2.2.2.1,a.2.2.2.2.2.2.2.2.2.2.2.2.2.1,a.2.2.2.2.2.2.2.2.2.2.2.2.2.2) T.2[k] = some (a',outs,d):=r1
 unfold laws_FnMoment_l0
 rw [dlt (by omega),cond_true,at_nat hk,Option.bind_some,hD,Option.bind_some,agentT r2.awf,Option.bind_some,r2.ok,Bool.not_true,cond_false,w64_nat (by omega)]
 by_cases hd:d = []
 · subst hd
   rfl
 · rcases r3 with r3 | ⟨q1,j,hj,q2,q3⟩
   · exact absurd r3 hd
   obtain ⟨pd,e1,e2,e3,⟨e4,e5,e6⟩,e7⟩:=answered h hj q3 hd
   subst e1
   have hJ:=h.j _ (List.getElem_mem hj)
   have hat:at? a.2.2.2.2.2.2.2.2.2.2.2.2.1 (j:Int) = some (aJobs a)[j]:=at_nat hj
   have hlen:a.2.2.2.2.2.2.2.2.2.2.2.2.1.length = (aJobs a).length:=rfl
   have hsp:laws_samePdu pd pd = some true:=samePduT (pdu_xs e3)
   generalize hjj:(aJobs a)[j] = J at *
   have had:at? [(J.1,pd)] 0 = some (J.1,pd):=rfl
   have hRb:impl_ReplyOf (a.1,a.2.1,a.2.2.1,a.2.2.2.1,a.2.2.2.2.1,a.2.2.2.2.2.1,a.2.2.2.2.2.2.1,a.2.2.2.2.2.2.2.1,a.2.2.2.2.2.2.2.2.1,a.2.2.2.2.2.2.2.2.2.1,a.2.2.2.2.2.2.2.2.2.2.1) (J.2.2.2.1,J.2.2.2.2.1,J.2.2.2.2.2.1,J.2.2.2.2.2.2.1,J.2.2.2.2.2.2.2.1) = some (replyV (aB a) (jP J)):=replyT h.b.w h.b.le (pdu_xs e4)
   have hRs:impl_ReplyOf (J.2.2.2.2.2.2.2.2.1,J.2.2.2.2.2.2.2.2.2.1,J.2.2.2.2.2.2.2.2.2.2.1,J.2.2.2.2.2.2.2.2.2.2.2.1,J.2.2.2.2.2.2.2.2.2.2.2.2.1,J.2.2.2.2.2.2.2.2.2.2.2.2.2.1,J.2.2.2.2.2.2.2.2.2.2.2.2.2.2.1,J.2.2.2.2.2.2.2.2.2.2.2.2.2.2.2.1,J.2.2.2.2.2.2.2.2.2.2.2.2.2.2.2.2.1,J.2.2.2.2.2.2.2.2.2.2.2.2.2.2.2.2.2.1,J.2.2.2.2.2.2.2.2.2.2.2.2.2.2.2.2.2.2.1) (J.2.2.2.1,J.2.2.2.2.1,J.2.2.2.2.2.1,J.2.2.2.2.2.2.1,J.2.2.2.2.2.2.2.1) = some (replyV (jB J) (jP J)):=replyT e6.w e6.le (pdu_xs e4)
   have hsame:∀ b,b = aB a' → impl_SameBridge b (a'.1,a'.2.1,a'.2.2.1,a'.2.2.2.1,a'.2.2.2.2.1,a'.2.2.2.2.2.1,a'.2.2.2.2.2.2.1,a'.2.2.2.2.2.2.2.1,a'.2.2.2.2.2.2.2.2.1,a'.2.2.2.2.2.2.2.2.2.1,a'.2.2.2.2.2.2.2.2.2.2.1) = some true:=fun b e=>by
    subst e
    exact sameX r2.b
   have c0:decide ((([(J.1,pd)]:List Done).length:Int) > 1) = false:=rfl
   have c0':((([(J.1,pd)]:List Done).length:Int) == 1) = true:=rfl
   have c1:(T.2[k].1 != 2) = false:=by rw [q1]; rfl
   have c2:decide ((j:Int) < 0) = false:=decide_eq_false (by omega)
   have c3:decide ((j:Int) ≥ (a.2.2.2.2.2.2.2.2.2.2.2.2.1.length:Int)) = false:=decide_eq_false (by rw [hlen]; omega)
   have c4:(J.2.2.1 != 2) = false:=by rw [e2]; rfl
   simp only [c0,c0',Option.bind_some,c1,cond_false,q2,c2,c3,hat,had,bne_self_eq_false,c4,cond_true,hRb]
   rcases e7 with ⟨f1,f2,f3⟩ | ⟨f1,f2,f3,f4⟩ | ⟨f1,f2,f3,f4,f5⟩
   · have g1:(J.2.2.2.1 != 163) = true:=bne_iff_ne.2 f1
     have g2:=hsame (a.1,a.2.1,a.2.2.1,a.2.2.2.1,a.2.2.2.2.1,a.2.2.2.2.2.1,a.2.2.2.2.2.2.1,a.2.2.2.2.2.2.2.1,a.2.2.2.2.2.2.2.2.1,a.2.2.2.2.2.2.2.2.2.1,a.2.2.2.2.2.2.2.2.2.2.1) (show (a.1,a.2.1,a.2.2.1,a.2.2.2.1,a.2.2.2.2.1,a.2.2.2.2.2.1,a.2.2.2.2.2.2.1,a.2.2.2.2.2.2.2.1,a.2.2.2.2.2.2.2.2.1,a.2.2.2.2.2.2.2.2.2.1,a.2.2.2.2.2.2.2.2.2.2.1) = aB a' from f3.symm)
     have g3:laws_samePdu (replyV (jB J) (jP J)).2.1 pd = some true:=by rw [← f2]; exact hsp
     simp only [g1,cond_true,hRs,Option.bind_some,(askT e6 e4 e5).1,Bool.not_true,cond_false,g3,g2]
     rfl
   · have g1:(J.2.2.2.1 != 163) = false:=by rw [show J.2.2.2.1 = 163 from f1]; rfl
     have g2:=hsame (replyV (aB a) (jP J)).1 f4.symm
     have g3:laws_samePdu (replyV (aB a) (jP J)).2.1 pd = some true:=by rw [← f3]; exact hsp
     have g4:(a.2.2.2.2.2.2.2.2.2.2.1 != J.2.2.2.2.2.2.2.2.2.2.2.2.2.2.2.2.2.2.1) = false:=by rw [show a.2.2.2.2.2.2.2.2.2.2.1 = J.2.2.2.2.2.2.2.2.2.2.2.2.2.2.2.2.2.2.1 from f2]; exact bne_self_eq_false _
     simp only [g1,cond_false,g4,(askT h.b e4 e5).1,Bool.not_true,Option.bind_some,g3,g2]
     rfl
   · have g1:(J.2.2.2.1 != 163) = false:=by rw [show J.2.2.2.1 = 163 from f1]; rfl
     have g2:=hsame (a.1,a.2.1,a.2.2.1,a.2.2.2.1,a.2.2.2.2.1,a.2.2.2.2.2.1,a.2.2.2.2.2.2.1,a.2.2.2.2.2.2.2.1,a.2.2.2.2.2.2.2.2.1,a.2.2.2.2.2.2.2.2.2.1,a.2.2.2.2.2.2.2.2.2.2.1) (show (a.1,a.2.1,a.2.2.1,a.2.2.2.1,a.2.2.2.2.1,a.2.2.2.2.2.1,a.2.2.2.2.2.2.1,a.2.2.2.2.2.2.2.1,a.2.2.2.2.2.2.2.2.1,a.2.2.2.2.2.2.2.2.2.1,a.2.2.2.2.2.2.2.2.2.2.1) = aB a' from f5.symm)
     have g4:(a.2.2.2.2.2.2.2.2.2.2.1 != J.2.2.2.2.2.2.2.2.2.2.2.2.2.2.2.2.2.2.1) = true:=bne_iff_ne.2 f2
     have g5:(J.2.2.2.2.2.2.2.2.2.2.2.2.2.2.2.2.2.2.2.2 == 3) = true:=by rw [show J.2.2.2.2.2.2.2.2.2.2.2.2.2.2.2.2.2.2.2.2 = 3 from f3]; rfl
     have g6:(cond (pd.2.2.1 == 6) (some true) (some (pd.2.2.1 == 7)):Option Bool) = some true:=by rw [f4]; exact lateA _
     simp only [g1,cond_false,g4,cond_true,g5,g6,Option.bind_some,Bool.not_true,hsp,g2]
     rfl
theorem fnMoment_pure (code:List Int):laws_FnMoment code = some true:=by
 unfold laws_FnMoment laws_big
 by_cases hbig:(code.length:Int) > 1048576
 · simp only [decide_eq_true hbig,Option.bind_some,cond_true]
 simp only [decide_eq_false hbig,Option.bind_some,cond_false]
 obtain ⟨b,l,e,hb,hl,hx⟩:=playD (code:=code) (by omega)
 rw [e,Option.bind_some]
 simp only
 rw [agentNewT hb (by show 4 ≤ 20; omega),Option.bind_some]
 obtain ⟨v,e1,d,rfl⟩:=loop_inv (step:=fun z:SM=>laws_FnMoment_l0 (b,l) z.1 z.2.1 z.2.2.1 z.2.2.2.1 z.2.2.2.2.1 z.2.2.2.2.2.1 z.2.2.2.2.2.2.1 z.2.2.2.2.2.2.2.1 z.2.2.2.2.2.2.2.2.1 z.2.2.2.2.2.2.2.2.2.1 z.2.2.2.2.2.2.2.2.2.2.1 z.2.2.2.2.2.2.2.2.2.2.2.1 z.2.2.2.2.2.2.2.2.2.2.2.2.1 z.2.2.2.2.2.2.2.2.2.2.2.2.2.1 z.2.2.2.2.2.2.2.2.2.2.2.2.2.2.1 z.2.2.2.2.2.2.2.2.2.2.2.2.2.2.2) (fun k z=>∃ a,AInv a ∧ z = stM a (k:Int)) l.length (fun v=>∃ d,v = .inl d)
  (fun k z hk ⟨a,ha,e⟩=>by
   subst e
   obtain ⟨a',h1,h2⟩:=momS (T:=(b,l)) ha hk (by show l.length ≤ 1000; omega) (hx _ (List.getElem_mem hk))
   exact .inl ⟨_,h2,a',h1,rfl⟩)
  (fun z ⟨a,ha,e⟩=>by
   subst e
   refine ⟨.inl (a.1,a.2.1,a.2.2.2.2.2.2.1,a.2.2.2.2.2.2.2.1,a.2.2.2.2.2.2.2.2.1,a.2.2.2.2.2.2.2.2.2.1,a.2.2.2.2.2.2.2.2.2.2.1,a.2.2.2.2.2.2.2.2.2.2.2.1,a.2.2.2.2.2.2.2.2.2.2.2.2.2.1,a.2.2.2.2.2.2.2.2.2.2.2.2.2.2,a.2.2.1,a.2.2.2.1,a.2.2.2.2.1,a.2.2.2.2.2.1,a.2.2.2.2.2.2.2.2.2.2.2.2.1),?_,_,rfl⟩
   show laws_FnMoment_l0 (b,l) (l.length:Int) _ _ _ _ _ _ _ _ _ _ _ _ _ _ _ = _
   unfold laws_FnMoment_l0
   rw [dnlt (by show ¬ (l.length:Int) < (l.length:Int); omega),cond_false]; rfl) (x:=stM (mkA b yard [] 0 0) 0) ⟨_,new_inv hb (by show 4 ≤ 20; omega),rfl⟩
 exact (congrArg (fun o=>Option.bind o _) e1).trans rfl
end Go.V.W

