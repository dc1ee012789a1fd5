/- V: a run of the model's code over plain data, and that it is what the machine does. Part 4 of 4. No condition. -/
import Derived.Test.YtimnkopmjkcppaaGreatV3
import Derived.Carry
import Derived.Below
open List (append_eq_nil_iff)
set_option linter.unusedVariables false
set_option linter.unusedSimpArgs false
namespace Go.V
open Go.RowKit
variable {P:Program} {ti:List (Nat × TInfo)} {W w:World}

mutual
theorem CT.same_refl:∀ c:CT,CT.same c c = some ⟨rfl⟩
 | .int k=>by simp [CT.same]
 | .bool=>rfl
 | .str=>rfl
 | .err=>rfl
 | .sl e=>by simp only [CT.same,Cs.same_refl e]
theorem Cs.same_refl:∀ e:Cs,Cs.same e e = some ⟨rfl⟩
 | .one c=>by simp only [Cs.same,CT.same_refl c]
 | .cons c r=>by simp only [Cs.same,CT.same_refl c,Cs.same_refl r]
end
theorem CT.read_cell {F:Name → Option Entry} (c:CT) (x:c.den):(c.read (c.cell x)).Runs F x []:=by
 cases c with
 | int k=>exact (show (cond (Nat.beq (ikNat k) (ikNat k)) (Rd.ret x) .fail).Runs F x [] from by rw [show Nat.beq (ikNat k) (ikNat k) = true from Nat.beq_refl _]; exact ⟨rfl,rfl⟩)
 | bool=>exact ⟨rfl,rfl⟩
 | str=>exact ⟨rfl,rfl⟩
 | err=>exact ⟨rfl,rfl⟩
 | sl e =>
  show (readL e (.sh e x)).Runs F x []
  simp only [readL,Cs.same_refl]
  exact ⟨rfl,rfl⟩
theorem Rd.bind_runs {α β:Type} {F:Name → Option Entry} {f:α → Rd β} {a:α} {b:β}:∀ {x:Rd α} {L1 L2:List Name},x.Runs F a L1 → (f a).Runs F b L2 → (x.bind f).Runs F b (L1 ++ L2)
 | .ret a',L1,L2,⟨h1,h2⟩,k=>by subst h1; subst h2; exact k
 | .fail,_,_,h,_=>h.elim
 | .get n g,L1,L2,⟨L',h1,h2⟩,k=>by subst h1; exact ⟨L' ++ L2,rfl,Rd.bind_runs h2 k⟩
 | .opt o g,L1,L2,⟨b',h1,h2⟩,k=>⟨b',h1,Rd.bind_runs h2 k⟩
theorem Cs.read_cells {F:Name → Option Entry}:∀ (c:Cs) (x:c.den),(c.read (c.cells x)).Runs F x []
 | .one c,x=>CT.read_cell c x
 | .cons c r,x=>by
  show ((c.read (c.cell x.1)).bind fun a=>(r.read (r.cells x.2)).bind fun b=>.ret (a,b)).Runs F x []
  exact Rd.bind_runs (L1:=[]) (L2:=[]) (CT.read_cell c x.1) (Rd.bind_runs (L1:=[]) (L2:=[]) (Cs.read_cells r x.2) ⟨rfl,rfl⟩)
def argAVs:(ps:List PSig) → Tup (psCs ps) → List AV
 | [],_=>[]
 | .val agg c _ :: ps,x=>avOf agg (c.cells (Tup.hd c (psCs ps) x)) :: argAVs ps (Tup.tl c (psCs ps) x)
 | .ptr c _ :: ps,x=>argAVs ps (Tup.tl c (psCs ps) x)
theorem argAVs_rep {D:Name → Prop} {g:Gh}:∀ {ps:List PSig} {x:Tup (psCs ps)} {vs:List Value},lends ps = true → ArgsAt g.I w ps x vs [] [] → All2 (AVRep D g w) (argAVs ps x) vs
 | [],x,vs,_,⟨h,_⟩=>by subst h; trivial
 | .val agg c false :: ps,x,vs,hl,⟨v,vs',us,t1,t2,n1,n2,h1,h2,h3,h4,h5,h6⟩=>by
  subst h1
  obtain ⟨rfl,rfl⟩:=append_eq_nil_iff.1 h3.symm
  obtain ⟨rfl,rfl⟩:=append_eq_nil_iff.1 h4.symm
  rcases h5 with ⟨_,_,h,_⟩ | ⟨_,_,_,F,hF,hI⟩
  · cases h
  · exact ⟨avOf_rep (Cs.cells_rep hF hI) h2,argAVs_rep (by simpa [lends] using hl) h6⟩
 | .val _ _ true :: _,_,_,hl,_=>by simp [lends] at hl
 | .ptr _ _ :: _,_,_,hl,_=>by simp [lends] at hl
theorem okAgg_of {D:Name → Prop} {g:Gh} {agg:Bool} {c:Cs} {x:c.den} {v:Value} {us:List Value} {F:List Nat} (h:isAgg agg v us) (hF:Cs.Rep w c x us F):okAgg agg (avOf agg (c.cells x)) = true ∧ (avOf agg (c.cells x)).cells = c.cells x:=by
 rcases h with ⟨rfl,rfl⟩ | ⟨rfl,_⟩
 · have hl:=hF.length
   cases c with
   | one c=>exact ⟨rfl,rfl⟩
   | cons c r =>
    exfalso
    have:=Cs.len_pos r
    simp [Cs.len] at hl; omega
 · have:avOf true (c.cells x) = .agg (c.cells x):=by cases c.cells x <;> rfl
   rw [this]; exact ⟨rfl,rfl⟩
theorem argAVs_bind {I:Nat → Prop} {F:Name → Option Entry}:∀ {ps:List PSig} {x:Tup (psCs ps)} {vs:List Value},lends ps = true → ArgsAt I w ps x vs [] [] → ∃ b:Bound (psCs ps),(bindArgs false ps (argAVs ps x)).Runs F b [] ∧ b.args = x ∧ b.used = [] ∧ b.ptrs = []
 | [],x,vs,_,⟨h,_⟩=>⟨⟨(),[],[],[]⟩,⟨rfl,rfl⟩,rfl,rfl,rfl⟩
 | .val agg c false :: ps,x,vs,hl,⟨v,vs',us,t1,t2,n1,n2,h1,h2,h3,h4,h5,h6⟩=>by
  subst h1
  obtain ⟨rfl,rfl⟩:=append_eq_nil_iff.1 h3.symm
  obtain ⟨rfl,rfl⟩:=append_eq_nil_iff.1 h4.symm
  rcases h5 with ⟨_,_,h,_⟩ | ⟨_,_,_,G,hG,hI⟩
  · cases h
  · obtain ⟨k1,k2⟩:=okAgg_of (D:=fun _=>False) (g:=⟨fun _=>False,fun _=>.slice none 0 0,fun _=>0,fun _=>none,fun _=>[],fun _=>[]⟩) h2 hG
    obtain ⟨b,e1,e2,e3,e4⟩:=argAVs_bind (F:=F) (show lends ps = true by simpa [lends] using hl) h6
    refine ⟨⟨Tup.mk c (psCs ps) (Tup.hd c (psCs ps) x) b.args,[] ++ b.used,b.ptrs,cond false [] ((avOf agg (c.cells (Tup.hd c (psCs ps) x))).cells.flatMap Cell.names) ++ b.ro⟩,?_,?_,?_,e4⟩
    · show (bindArgs false (.val agg c false :: ps) (avOf agg (c.cells (Tup.hd c (psCs ps) x)) :: argAVs ps (Tup.tl c (psCs ps) x))).Runs F _ []
      rw [bindArgs,k1]
      refine Rd.bind_runs (L1:=[]) (L2:=[]) (a:=()) ⟨rfl,rfl⟩ ?_
      refine Rd.bind_runs (L1:=[]) (L2:=[]) (a:=(Tup.hd c (psCs ps) x,[])) ?_ ?_
      · refine Rd.bind_runs (L1:=[]) (L2:=[]) (a:=Tup.hd c (psCs ps) x) ?_ ⟨rfl,rfl⟩
        rw [k2]; exact Cs.read_cells c _
      · exact Rd.bind_runs (L1:=[]) (L2:=[]) e1 ⟨rfl,rfl⟩
    · show Tup.mk c (psCs ps) (Tup.hd c (psCs ps) x) b.args = x
      rw [e2]
      have eta:∀ (c:Cs) (r:List Cs) (x:Tup (c :: r)),Tup.mk c r (Tup.hd c r x) (Tup.tl c r x) = x:=by
       intro c r x
       cases r with
       | nil=>rfl
       | cons _ _=>rfl
      exact eta c (psCs ps) x
    · simpa using e3
 | .val _ _ true :: _,_,_,hl,_=>by simp [lends] at hl
 | .ptr _ _ :: _,_,_,hl,_=>by simp [lends] at hl
abbrev yesR:List RSig:=[.val false (.one .bool) (some true)]
def yes:(ps:List PSig) → Tup (outCs ps yesR)
 | []=>true
 | .val _ _ _ :: ps=>yes ps
 | .ptr c _ :: ps=>Tup.mk c (outCs ps yesR) c.zero (yes ps)
theorem giveOut_yes:∀ (ps:List PSig) (n:Name),lends ps = true → giveOut n ps yesR [] (yes ps) = ⟨[.cell (.bool true)],[],[]⟩
 | [],n,_=>rfl
 | .val _ _ false :: ps,n,h=>giveOut_yes ps n (by simpa [lends] using h)
 | .val _ _ true :: _,_,h=>by simp [lends] at h
 | .ptr _ _ :: _,_,h=>by simp [lends] at h
theorem sharing_yes:∀ (ps:List PSig),lends ps = true → sharing ps yesR = false:=by
 intro ps h
 unfold sharing
 rw [show yesR.any RSig.sh = false from rfl,Bool.or_false]
 rw [List.any_eq_false]
 intro p hp
 have:=List.all_eq_true.1 h p hp
 cases p with
 | val _ _ _=>simp [PSig.sh]
 | ptr _ _=>cases this
theorem law_calls {f:FuncId} {ps:List PSig} {den:Tup (psCs ps) → Option (Tup (outCs ps yesR))} (hm:Meets P f ⟨ps,yesR,den⟩) (hl:lends ps = true) {x:Tup (psCs ps)} {vs:List Value} (ha:ArgsAt (fun b=>b < w.heap.size) w ps x vs [] []) (hd:den x = some (yes ps)) :
 Calls P f vs.toArray w fun e w'=>e = .returned (.bool true) ∧ Below w.heap.size w w':=by
 have hM:=MS.start (w:=w) (fun b=>b < w.heap.size) (fun _=>False) (fun k=>∃ b,k = w.heap.size + b ∧ b < w.heap.size) (fun _ h=>h) (fun b h=>⟨b,rfl,h⟩) (fun _ h=>h.elim)
 have h1:=argAVs_rep (D:=dom []) (g:=⟨fun b=>b < w.heap.size,fun _=>.slice none 0 0,fun _=>0,fun _=>none,fun _=>[],fun _=>[]⟩) hl ha
 obtain ⟨b,h2,e1,e2,e3⟩:=argAVs_bind (F:=find []) hl ha
 have hs:=sharing_yes ps hl
 have hg:=giveOut_yes ps 0 hl
 have key:=hm.2 w (fun _=>False) (fun k=>∃ b,k = w.heap.size + b ∧ b < w.heap.size) [] _ w 0 (argAVs ps x) vs b [] (yes ps) hM h1 (by rw [hs]; exact h2)
  (by rw [e2]; simp [distinct,find]) (by show den b.args = _; rw [e1]; exact hd)
  (by show distinct (giveOut 0 ps yesR b.ptrs (yes ps)).news = true; rw [e3,hg]; rfl) (by intro p hp; have hp:p ∈ (giveOut 0 ps yesR b.ptrs (yes ps)).news:=hp; rw [e3,hg] at hp; simp at hp)
 refine key.mono fun e w' he=>?_
 cases e with
 | returned v =>
  obtain ⟨g',hM',_,hv⟩:=he
  have hv:AVRep _ g' w' (valsAV (giveOut 0 ps yesR b.ptrs (yes ps)).vals) v:=hv
  rw [e3,hg] at hv
  have hv:v = .bool true:=hv
  exact ⟨by rw [hv],⟨hM'.since.os,hM'.since.tape,hM'.since.out,hM'.since.size,fun k hk=>hM'.since.mem k hk (fun h=>h)⟩⟩
 | panicked _=>exact he.elim
 | outgrown=>exact he.elim

theorem lent_args:∀ {ps:List PSig} {x:Tup (psCs ps)} {vs:List Value},LentAt w ps x vs → ArgsAt (fun b=>b < w.heap.size) w ps x vs [] []
 | [],x,vs,h=>⟨h,rfl,rfl⟩
 | .val agg c false :: ps,x,vs,⟨v,vs',us,F,h1,h2,h3,h4⟩=>⟨v,vs',us,[],[],[],[],h1,h2,rfl,rfl,.inr ⟨rfl,rfl,rfl,F,h3,fun b hb=>h3.lt b hb⟩,lent_args h4⟩
 | .val _ _ true :: _,_,_,h=>h.elim
 | .ptr .. :: _,_,_,h=>h.elim
theorem sharing_okT {ps:List PSig} {rs:List RSig} (h:lends ps = true) (k:okT rs = true):sharing ps rs = false:=by
 unfold sharing
 rw [Bool.or_eq_false_iff,List.any_eq_false,List.any_eq_false]
 refine ⟨fun p hp=>?_,fun r hr=>?_⟩
 · have:=List.all_eq_true.1 h p hp
   cases p with
   | val _ _ _=>simp [PSig.sh]
   | ptr _ _=>cases this
 · have:=List.all_eq_true.1 k r hr
   cases r with
   | val agg c own=>cases hx:notAll own <;> simp_all [RSig.sh]
   | ptr _ _=>cases this
theorem meetsT_of {f:FuncId} {F:Fn} (hm:Meets P f F) (hl:lends F.ps = true) (hk:okT F.rs = true):MeetsT P f F:=by
 refine ⟨hm.1,fun w uid x vs r ha hd hdist=>?_⟩
 have hM:=MS.start (w:=w) (fun b=>b < w.heap.size) (fun _=>False) (fun k=>∃ b,k = w.heap.size + b ∧ b < w.heap.size) (fun _ h=>h) (fun b h=>⟨b,rfl,h⟩) (fun _ h=>h.elim)
 have ha':=lent_args ha
 have h1:=argAVs_rep (D:=dom []) (g:=⟨fun b=>b < w.heap.size,fun _=>.slice none 0 0,fun _=>0,fun _=>none,fun _=>[],fun _=>[]⟩) hl ha'
 obtain ⟨b,h2,e1,e2,e3⟩:=argAVs_bind (F:=find []) hl ha'
 have hs:=sharing_okT hl hk
 have hu:(giveOut uid F.ps F.rs [] r).upds = []:=by
  have:=giveOut_upds F.ps F.rs uid [] r
  cases hq:(giveOut uid F.ps F.rs [] r).upds with
  | nil=>rfl
  | cons p l=>exact absurd (this p (by rw [hq]; simp)) (by simp)
 have key:=hm.2 w (fun _=>False) (fun k=>∃ b,k = w.heap.size + b ∧ b < w.heap.size) [] _ w uid (argAVs F.ps x) vs b [] r hM h1 (by rw [hs]; exact h2)
  (by rw [e2]; simp [distinct,find]) (by rw [e1]; exact hd) (by rw [e3]; exact hdist) (by intro p hp; rfl)
 refine key.mono fun e w' he=>?_
 cases e with
 | returned v =>
  obtain ⟨g',hM',_,hv⟩:=he
  rw [e3,e2,hu] at hM' hv
  simp only [List.append_nil] at hM' hv
  exact ⟨g',_,_,fun _ h=>h,fun b hb ⟨c,hc,_⟩=>by omega,hM',hv⟩
 | panicked _=>exact he.elim
 | outgrown=>exact he.elim
theorem Good.cons {l:List (FuncId × Fn)} {f:FuncId} {F:Fn} (h:Good P ⟨ti,l,[],false⟩) (hm:Meets P f F):Good P ⟨ti,(f,F) :: l,[],false⟩:=by
 refine ⟨h.tis,h.eqs,fun k F' hk=>?_,(fun f M hf=>by cases hf),(fun h=>by cases h)⟩
 have hk':(if f = k then some F else find l k) = some F':=by rw [← find_cons]; exact hk
 clear hk
 split at hk'
 · rename_i e; subst e; cases hk'; exact hm
 · exact h.fns k F' hk'
theorem Good.trees {l:List (FuncId × Fn)} {m:List (FuncId × MFn)} (h:Good P ⟨ti,l,[],false⟩) (hm:∀ f M,find m f = some M → Marks P f M):Good P ⟨ti,l,m,true⟩ :=
 ⟨h.tis,h.eqs,h.fns,hm,fun _ f F hf hl hk=>meetsT_of (h.fns f F hf) hl hk⟩

def TupWf:(ps:List PSig) → Tup (psCs ps) → Prop
 | [],_=>True
 | .val _ c _ :: ps,x=>Cs.wf c (Tup.hd c (psCs ps) x) ∧ TupWf ps (Tup.tl c (psCs ps) x)
 | .ptr c _ :: ps,x=>Cs.wf c (Tup.hd c (psCs ps) x) ∧ TupWf ps (Tup.tl c (psCs ps) x)
def sigOk (ti:List (Nat × TInfo)):List TypeId → List PSig → Bool
 | [],[]=>true
 | t :: ts,.val agg c false :: ps=>(match find ti t with | some i=>beqB i.agg agg && (Cs.same i.cs c).isSome | none=>false) && sigOk ti ts ps
 | _,_=>false
theorem sigOk_lends:∀ {ts:List TypeId} {ps:List PSig},sigOk ti ts ps = true → lends ps = true
 | [],[],_=>rfl
 | t :: ts,.val agg c false :: ps,h=>by
  simp only [sigOk,aT] at h
  simpa [lends] using sigOk_lends h.2
 | [],_ :: _,h=>by cases h
 | _ :: _,[],h=>by cases h
 | _ :: _,.val _ _ true :: _,h=>by cases h
 | _ :: _,.ptr _ _ :: _,h=>by cases h
theorem okWide_agg (hT:Tis P ti) {t:Nat} {i:TInfo} (hi:find ti t = some i) {base:Nat} {v:Value} (hv:Value.okWide P W .any base t v):isAgg i.agg v v.cells.toList:=by
 obtain ⟨d,u,z,hf⟩:=hT.facts hi
 cases ha:i.agg with
 | true =>
  obtain ⟨fs,hu,_⟩:=hf.agg ha
  have hund:=hf.und
  rw [hu] at hund
  simp only [Value.okWide,hund] at hv
  obtain ⟨cs,rfl,_⟩:=hv
  exact .inr ⟨rfl,rfl⟩
 | false =>
  obtain ⟨c,_,hs⟩:=hf.plain ha
  have hund:=hf.und
  left
  refine ⟨rfl,?_⟩
  cases u <;> try (simp [scalarOk] at hs; done)
  all_goals
   simp only [Value.okWide,hund,Cell.okWide] at hv
   cases v <;> first | rfl | (simp_all [Cell.ok]; done)
theorem law_args {H:Type} {enc:TypeId × Value → H} {held:Bool} (hT:Tis P ti) (hD:Deep P ti) {base:Nat}:∀ {ts:List TypeId} {ps:List PSig} {vs:List Value} {ds:List (DataW H)} {p:List MemPlace},sigOk ti ts ps = true → DataW.TrodAll enc P W 0 (fun _=>true) held ts vs ds p →
 (∀ (j:Nat) t v,ts[j]? = some t → vs[j]? = some v → Value.okWide P W .any base t v) → ∃ x,ArgsAt (fun b=>b < W.heap.size) W ps x vs [] [] ∧ TupWf ps x
 | [],[],[],[],p,_,_,_=>⟨(),⟨rfl,rfl,rfl⟩,trivial⟩
 | t :: ts,.val agg c false :: ps,v :: vs,d :: ds,p,hs,h,hv=>by
  obtain ⟨p1,q1,⟨fuel,h1⟩,h2,_⟩:=h
  simp only [sigOk,aT] at hs
  cases hi:find ti t with
  | none=>rw [hi] at hs; cases hs.1
  | some i =>
   rw [hi] at hs
   simp only [aT] at hs
   obtain ⟨⟨ha,hc⟩,hs⟩:=hs
   obtain rfl:=beqB_eq ha
   cases hsm:Cs.same i.cs c with
   | none=>rw [hsm] at hc; cases hc
   | some e =>
    obtain ⟨e⟩:=e
    subst e
    obtain ⟨x1,F,k1,k2,k3⟩:=good_rep i.cs _ (trod_good hT hD fuel t i _ _ hi h1)
    obtain ⟨x2,k4,k5⟩:=law_args (ps:=ps) hT hD hs h2 (fun j t v ht hv'=>hv (j + 1) t v (by simpa using ht) (by simpa using hv'))
    have hag:=okWide_agg hT hi (hv 0 t v rfl rfl)
    refine ⟨Tup.mk i.cs (psCs ps) x1 x2,⟨v,vs,v.cells.toList,[],[],[],[],rfl,hag,rfl,rfl,.inr ⟨rfl,rfl,rfl,F,?_,k2⟩,?_⟩,?_⟩
    · show Cs.Rep W i.cs (Tup.hd i.cs (psCs ps) (Tup.mk i.cs (psCs ps) x1 x2)) _ F; rw [Tup.hd_mk]; exact k1
    · show ArgsAt _ W ps (Tup.tl i.cs (psCs ps) (Tup.mk i.cs (psCs ps) x1 x2)) vs [] []; rw [Tup.tl_mk]; exact k4
    · show Cs.wf i.cs (Tup.hd i.cs (psCs ps) (Tup.mk i.cs (psCs ps) x1 x2)) ∧ TupWf ps (Tup.tl i.cs (psCs ps) (Tup.mk i.cs (psCs ps) x1 x2)); rw [Tup.hd_mk,Tup.tl_mk]; exact ⟨k3,k5⟩
 | [],[],_ :: _,_,_,_,h,_=>by cases h
 | [],[],[],_ :: _,_,_,h,_=>by cases h
 | _ :: _,_,[],_,_,_,h,_=>by cases h
 | _ :: _,_,_ :: _,[],_,_,h,_=>by cases h
 | [],_ :: _,_,_,_,hs,_,_=>by cases hs
 | _ :: _,[],_,_,_,hs,_,_=>by cases hs
 | _ :: _,.val _ _ true :: _,_,_,_,hs,_,_=>by cases hs
 | _ :: _,.ptr _ _ :: _,_,_,_,hs,_,_=>by cases hs
theorem law_walk {H:Type} {enc:TypeId × Value → H} {held:Bool} {f:FuncId} {ps:List PSig} {den:Tup (psCs ps) → Option (Tup (outCs ps yesR))} (hm:Meets P f ⟨ps,yesR,den⟩) (hT:Tis P ti) (hD:Deep P ti) {ts:List TypeId} (hs:sigOk ti ts ps = true) (hden:∀ x,TupWf ps x → den x = some (yes ps))
 {base:Nat} {vs:List Value} {ds:List (DataW H)} {p:List MemPlace} (h:DataW.TrodAll enc P W 0 (fun _=>true) held ts vs ds p) (hv:∀ (j:Nat) t v,ts[j]? = some t → vs[j]? = some v → Value.okWide P W .any base t v) :
 Calls P f vs.toArray W fun e W'=>e = .returned (.bool true) ∧ Below W.heap.size W W':=by
 obtain ⟨x,h1,h2⟩:=law_args hT hD hs h hv
 exact law_calls hm (sigOk_lends hs) h1 (hden x h2)
end Go.V
namespace Go.V
variable {P:Program} {G:Env} {ann:List (Nat × LoopAnn)} {w w':World}

end Go.V
namespace Go.V
def Le' {α:Type} (a b:Option α):Prop:=∀ r,a = some r → b = some r
theorem Le'.refl {α:Type} (a:Option α):Le' a a:=fun _ h=>h
theorem Le'.bind {α β:Type} {a b:Option α} {f g:α → Option β} (h:Le' a b) (k:∀ x,Le' (f x) (g x)):Le' (a.bind f) (b.bind g):=by
 intro r hr
 rw [Option.bind_eq_some_iff] at hr ⊢
 obtain ⟨x,h1,h2⟩:=hr
 exact ⟨x,h x h1,k x r h2⟩
theorem Le'.cond {α:Type} {c:Bool} {a b a' b':Option α} (h:Le' a b) (k:Le' a' b'):Le' (cond c a a') (cond c b b'):=by
 cases c
 · exact k
 · exact h
def qloop {α β:Type} (step:α → Option (α ⊕ β)) (a:α):Option β:=iter step 2048 a
theorem iter_le {α β:Type} {f g:α → Option (α ⊕ β)} (h:∀ x,Le' (f x) (g x)):∀ (k:Nat) (a:α),Le' (iter f k a) (iter g k a)
 | 0,a=>Le'.refl _
 | k + 1,a=>by
  rw [iter_succ,iter_succ]
  refine Le'.bind (h a) fun x=>?_
  cases x with
  | inl x=>exact iter_le h k x
  | inr b=>exact Le'.refl _
theorem iter_det {α β:Type} {f:α → Option (α ⊕ β)}:∀ (k k':Nat) (a:α) {b b':β},iter f k a = some b → iter f k' a = some b' → b = b'
 | 0,_,a,b,b',h,_=>by cases h
 | k + 1,0,a,b,b',_,h=>by cases h
 | k + 1,k' + 1,a,b,b',h,h'=>by
  rw [iter_succ,Option.bind_eq_some_iff] at h h'
  obtain ⟨x,h1,h2⟩:=h
  obtain ⟨x',h1',h2'⟩:=h'
  rw [h1] at h1'; cases h1'
  cases x with
  | inl x=>exact iter_det k k' x h2 h2'
  | inr c=>cases h2; cases h2'; rfl
theorem loop_of {α β:Type} {f:α → Option (α ⊕ β)} {k:Nat} {a:α} {b:β} (h:iter f k a = some b):loop f a = some b:=by
 unfold loop
 have hex:∃ k,(iter f k a).isSome:=⟨k,by rw [h]; rfl⟩
 rw [dif_pos hex]
 have:=Classical.choose_spec hex
 cases hc:iter f (Classical.choose hex) a with
 | none=>rw [hc] at this; cases this
 | some b'=>rw [iter_det _ _ _ h hc]
theorem Le'.loop {α β:Type} {f g:α → Option (α ⊕ β)} {a:α} (h:∀ x,Le' (f x) (g x)):Le' (qloop f a) (loop g a):=fun r hr=>loop_of (iter_le h _ _ r hr)
theorem w64_id {n:Int} (h1:-9223372036854775808 ≤ n) (h2:n ≤ 9223372036854775807):w64 n = n:=by
 show (let m:=n % 18446744073709551616; if (true && decide (m ≥ 9223372036854775808)) = true then m - 18446744073709551616 else m) = n
 simp only [Bool.true_and,decide_eq_true_eq]
 split <;> omega
end Go.V
namespace Go.V

theorem loop_inv {α β:Type} {step:α → Option (α ⊕ β)} (Inv:Nat → α → Prop) (m:Nat) (R:β → Prop)
 (h:∀ k x,k < m → Inv k x → (∃ y,step x = some (.inl y) ∧ Inv (k + 1) y) ∨ ∃ b,step x = some (.inr b) ∧ R b)
 (he:∀ x,Inv m x → ∃ b,step x = some (.inr b) ∧ R b) {x:α} (h0:Inv 0 x):∃ b,loop step x = some b ∧ R b:=by
 have key:∀ n k x,k + n = m → Inv k x → ∃ b,iter step (n + 1) x = some b ∧ R b:=by
  intro n
  induction n with
  | zero =>
   intro k x hk hx
   obtain rfl:k = m:=by omega
   obtain ⟨b,h1,h2⟩:=he x hx
   exact ⟨b,by rw [iter_succ,h1]; rfl,h2⟩
  | succ n ih =>
   intro k x hk hx
   rcases h k x (by omega) hx with ⟨y,h1,h2⟩ | ⟨b,h1,h2⟩
   · obtain ⟨b,h3,h4⟩:=ih (k + 1) y (by omega) h2
     exact ⟨b,by rw [iter_succ,h1]; exact h3,h4⟩
   · exact ⟨b,by rw [iter_succ,h1]; rfl,h2⟩
 obtain ⟨b,h1,h2⟩:=key m 0 x (by omega) h0
 exact ⟨b,loop_of h1,h2⟩
theorem at_nat {α:Type} {xs:List α} {k:Nat} (h:k < xs.length):at? xs (k:Int) = some xs[k]:=by
 unfold at?
 rw [if_pos (by omega),Int.toNat_natCast,List.getElem?_eq_getElem h]
theorem ix_nat {n k:Nat} (h:k < n):ix n (k:Int) = some k:=by
 unfold ix
 rw [if_pos (by omega),if_pos (by omega),Int.toNat_natCast]
theorem w64_nat {k:Nat} (h:k < 9223372036854775807):w64 ((k:Int) + 1) = ((k + 1:Nat):Int):=by
 rw [w64_id (by omega) (by omega)]; omega
theorem dlt {a b:Int} (h:a < b):decide (a < b) = true:=dT h
theorem dnlt {a b:Int} (h:¬ a < b):decide (a < b) = false:=dF h
theorem eq_loop {α:Type} {a:List α} {g:α → α → Option Bool} (hg:∀ x ∈ a,g x x = some true) (hn:a.length ≤ 4294967295) :
 loop (fun i:Int=>cond (decide (i < (a.length:Int))) ((at? a i).bind fun x=>(at? a i).bind fun y=>(g x y).bind fun t=>cond (!t) (some (.inr (.inr false))) (some (.inl (w64 (i + 1))))) (some (.inr (.inl ())))) 0 = some (Sum.inl ():Unit ⊕ Bool):=by
 obtain ⟨b,h1,rfl⟩:=loop_inv (β:=Unit ⊕ Bool) (step:=fun i:Int=>cond (decide (i < (a.length:Int))) ((at? a i).bind fun x=>(at? a i).bind fun y=>(g x y).bind fun t=>cond (!t) (some (.inr (.inr false))) (some (.inl (w64 (i + 1))))) (some (.inr (.inl ()))))
  (fun k i=>i = (k:Int)) a.length (fun b=>b = .inl ())
  (fun k i hk h=>by
   subst h
   refine .inl ⟨((k + 1:Nat):Int),?_,rfl⟩
   simp only [dlt (show (k:Int) < (a.length:Int) by omega),cT,at_nat hk,Option.bind_some,hg _ (List.getElem_mem hk),Bool.not_true,cF]
   rw [w64_nat (by omega)])
  (fun i h=>by
   subst h
   exact ⟨.inl (),by simp only [dnlt (show ¬ (a.length:Int) < (a.length:Int) by omega),cF],rfl⟩) (x:=0) rfl
 exact h1
theorem eq_loop' {a:List Int} (hn:a.length ≤ 4294967295) :
 loop (fun i:Int=>cond (decide (i < (a.length:Int))) ((at? a i).bind fun x=>(at? a i).bind fun y=>cond (x != y) (some (.inr (.inr false))) (some (.inl (w64 (i + 1))))) (some (.inr (.inl ())))) 0 = some (Sum.inl ():Unit ⊕ Bool):=by
 have:=eq_loop (a:=a) (g:=fun x y=>some (!(x != y))) (fun x _=>by simp) hn
 simpa using this
theorem eqS_of {n:Nat} {step:Int → Option (Int ⊕ (Unit ⊕ Bool))} (h:loop step 0 = some (Sum.inl ())):cond ((n:Int) != (n:Int)) (some false) ((loop step 0).bind (Sum.elim (fun _=>some true) (fun r=>some r))) = some true:=by
 rw [h]; simp
end Go.V
namespace Go.V

end Go.V

